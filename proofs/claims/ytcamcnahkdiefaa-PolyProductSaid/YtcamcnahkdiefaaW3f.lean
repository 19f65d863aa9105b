/- Chapter 3: the law PolyEvals. -/
import Derived.Test.YtcamcnahkdiefaaW3b
import Derived.Test.YtcamcnahkdiefaaPl
import Derived.Test.YtcamcnahkdiefaaRi
namespace Go.Proofs.Ytcamcnahkdiefaa
set_option linter.unusedVariables false
set_option linter.unusedSimpArgs false
open Go.RowKit
theorem add_facts {va : Int} {A B : List Tm} (hA : checkP va A = true) (hB : checkP va B = true) (hl : A.length + B.length ≤ 4096) : resE (addOk va A va B) va (A ++ B) = 0 ∧ resV (addOk va A va B) va (A ++ B) = va ∧ resL (addOk va A va B) va (A ++ B) = sortT (A ++ B) ∧ checkP va (sortT (A ++ B)) = true := by
  have hok : addOk va A va B = true := by unfold addOk; rw [hA, hB]; simp
  have oA := checkP_ok hA
  have oB := checkP_ok hB
  have hr := rightL_app oA.right oB.right
  have hs : (sortT (A ++ B)).length ≤ 4096 := Nat.le_trans (sort_len _) (by rw [List.length_append]; exact hl)
  rw [hok]
  obtain ⟨h1, h2, h3⟩ := mk_of_ok oA.range hr hs
  exact ⟨h1, h2, h3, check_sort oA.range hr hs⟩
theorem mul_facts {va : Int} {A B : List Tm} (hA : checkP va A = true) (hB : checkP va B = true) (hl : A.length * B.length ≤ 4096) :
    (mresE (addOk va A va B) va A B = 20 ∧ mresV (addOk va A va B) va A B = 0 ∧ mresL (addOk va A va B) va A B = []) ∨ (mresE (addOk va A va B) va A B = 0 ∧ mresV (addOk va A va B) va A B = va ∧ mresL (addOk va A va B) va A B = sortT (mulT A B) ∧ rightL va (mulT A B) = true ∧ checkP va (sortT (mulT A B)) = true) := by
  have hok : addOk va A va B = true := by unfold addOk; rw [hA, hB]; simp
  have oA := checkP_ok hA
  rw [hok]
  by_cases hr : rightL va (mulT A B) = true
  · right
    have hs : (sortT (mulT A B)).length ≤ 4096 := Nat.le_trans (sort_len _) (by rw [mulT_len]; exact hl)
    obtain ⟨h1, h2, h3⟩ := mk_of_ok oA.range hr hs
    refine ⟨?_, ?_, ?_, hr, check_sort oA.range hr hs⟩
    · show mulE va A B = 0; unfold mulE; rw [if_pos hr]; exact h1
    · show mulV va A B = va; unfold mulV; rw [if_pos hr]; exact h2
    · show mulL va A B = _; unfold mulL; rw [if_pos hr]; exact h3
  · left
    refine ⟨?_, ?_, ?_⟩
    · show mulE va A B = 20; unfold mulE; rw [if_neg hr]
    · show mulV va A B = 0; unfold mulV; rw [if_neg hr]
    · show mulL va A B = _; unfold mulL; rw [if_neg hr]
theorem eval_ok {va : Int} {A : List Tm} {xs : List UInt64} {m : Nat} (hA : checkP va A = true) (hm : m = xs.length) (hv : (m : Int) = va) : evalV va A xs = evalT xs A ∧ evalE va A m = 0 := by
  constructor
  · unfold evalV; rw [if_pos ⟨hA, by omega⟩]
  · unfold evalE; rw [if_pos ⟨hA, hv⟩]
set_option maxRecDepth 100000 in
set_option maxHeartbeats 12800000 in
theorem PolyEvals_calls (va vb : Int) (a b xa : Option Addr) (n c k d m xc : Nat) (ts us : List Tm) (xs : List UInt64) (hm : m = xs.length) (w : World) (h : TOut (fun _ => True) w a n c ts) (h' : TOut (fun _ => True) w b k d us) (hx : At w xa xs) :
    Calls Try.prog 5 #[.agg #[.int .i64 va, .slice a n c], .agg #[.int .i64 vb, .slice b k d], .slice xa m xc] w fun v w' => v = .returned (.bool true) ∧ Below w.heap.size w w' := by
  obtain ⟨hX, hY, hb0, hz0⟩ := two_boxes w 24 24 #[.int .i64 va, .slice a n c] #[.int .i64 vb, .slice b k d]
  obtain ⟨W0, hW0⟩ : ∃ W0, (w.alloc (.cells #[.int .i64 va, .slice a n c] 24)).alloc (.cells #[.int .i64 vb, .slice b k d] 24) = W0 := ⟨_, rfl⟩
  rw [hW0] at hX hY hb0 hz0
  obtain ⟨p0, p1, p2, p3⟩ := hX.c2
  obtain ⟨p4, p5, p6, p7⟩ := hY.c2
  have h0 := h.belowN hb0
  have h0' := h'.belowN hb0
  have hx0 := hx.belowN hb0
  have hB := Below.refl W0.heap.size W0
  obtain ⟨Q1, hQ1⟩ : ∃ Q, fewB ts 25 = Q := ⟨_, rfl⟩
  obtain ⟨Q2, hQ2⟩ : ∃ Q, fewB us 25 = Q := ⟨_, rfl⟩
  have HF1 := hide (fun (W : World) (kk : Below W0.heap.size W0 W) => Few_calls (fun _ => True) va 25 (by decide) a n c ts W (h0.belowN kk) Q1 hQ1)
  have HF2 := hide (fun (W : World) (kk : Below W0.heap.size W0 W) => Few_calls (fun _ => True) vb 25 (by decide) b k d us W (h0'.belowN kk) Q2 hQ2)
  have HXI := hide (fun (W : World) (kk : Below W0.heap.size W0 W) => (⟨(hX.belowN kk).c2, (hY.belowN kk).c2⟩ : (W.cell? ⟨w.heap.size, 0, none⟩ = some (.int .i64 va) ∧ W.cell? ⟨w.heap.size, 1, none⟩ = some (.slice a n c) ∧ W.frozen? ⟨w.heap.size, 0, none⟩ = false ∧ W.frozen? ⟨w.heap.size, 1, none⟩ = false) ∧ (W.cell? ⟨w.heap.size + 1, 0, none⟩ = some (.int .i64 vb) ∧ W.cell? ⟨w.heap.size + 1, 1, none⟩ = some (.slice b k d) ∧ W.frozen? ⟨w.heap.size + 1, 0, none⟩ = false ∧ W.frozen? ⟨w.heap.size + 1, 1, none⟩ = false)))
  have HW0 := hide hW0
  have HGO := hide goes3_calls
  obtain ⟨C1, hC1⟩ : ∃ Q, checkP va ts = Q := ⟨_, rfl⟩
  obtain ⟨C2, hC2⟩ : ∃ Q, checkP vb us = Q := ⟨_, rfl⟩
  cases Q1 with
  | false =>
    clear hQ1 hQ2 h h0 h' h0' hW0 hx hx0 hm hC1 hC2
    go_enter Try.func5, Try.ntmps5
    go_wp2_with (first
      | (go_at_call 8; (try rw [HW0.out]); (with_reducible refine (HF1.out _ hB).mono ?_); rintro v wx ⟨rfl, hbx⟩; have hB := hB.trans (hbx.mono hB.size); obtain ⟨⟨r0, r1, r2, r3⟩, ⟨s0, s1, s2, s3⟩⟩ := HXI.out _ hB)
      | (go_at_call 8; (with_reducible refine (HF2.out _ hB).mono ?_); rintro v wx ⟨rfl, hbx⟩; have hB := hB.trans (hbx.mono hB.size); obtain ⟨⟨r0, r1, r2, r3⟩, ⟨s0, s1, s2, s3⟩⟩ := HXI.out _ hB)
      | (go_at_call 9; (with_reducible refine (HGO.out _).mono ?_); rintro v wx ⟨rfl, hbx⟩; have hB := hB.trans (hbx.mono hB.size); obtain ⟨⟨r0, r1, r2, r3⟩, ⟨s0, s1, s2, s3⟩⟩ := HXI.out _ hB))
    go_ret
    exact ⟨rfl, hb0.trans (hB.mono hb0.size)⟩
  | true =>
    cases Q2 with
    | false =>
      clear hQ1 hQ2 h h0 h' h0' hW0 hx hx0 hm hC1 hC2
      go_enter Try.func5, Try.ntmps5
      go_wp2_with (first
        | (go_at_call 8; (try rw [HW0.out]); (with_reducible refine (HF1.out _ hB).mono ?_); rintro v wx ⟨rfl, hbx⟩; have hB := hB.trans (hbx.mono hB.size); obtain ⟨⟨r0, r1, r2, r3⟩, ⟨s0, s1, s2, s3⟩⟩ := HXI.out _ hB)
        | (go_at_call 8; (with_reducible refine (HF2.out _ hB).mono ?_); rintro v wx ⟨rfl, hbx⟩; have hB := hB.trans (hbx.mono hB.size); obtain ⟨⟨r0, r1, r2, r3⟩, ⟨s0, s1, s2, s3⟩⟩ := HXI.out _ hB)
        | (go_at_call 9; (with_reducible refine (HGO.out _).mono ?_); rintro v wx ⟨rfl, hbx⟩; have hB := hB.trans (hbx.mono hB.size); obtain ⟨⟨r0, r1, r2, r3⟩, ⟨s0, s1, s2, s3⟩⟩ := HXI.out _ hB))
      go_ret
      exact ⟨rfl, hb0.trans (hB.mono hb0.size)⟩
    | true =>
      obtain ⟨f1, f2⟩ := fewB_true hQ1
      obtain ⟨f3, f4⟩ := fewB_true hQ2
      have hn6 : n ≤ 25 := by have := h.len; omega
      have hk6 : k ≤ 25 := by have := h'.len; omega
      have hl6 : ∀ t ∈ ts, t.2.length ≤ 1000000 := fun t ht => Nat.le_trans (f2 t ht) (by decide)
      have hl6' : ∀ t ∈ us, t.2.length ≤ 1000000 := fun t ht => Nat.le_trans (f4 t ht) (by decide)
      have HC1 := hide (fun (W : World) (kk : Below W0.heap.size W0 W) => Check_calls va a n c ts h.len W (h0.at_.at_.belowN kk) (by omega) hl6 C1 hC1)
      have HC2 := hide (fun (W : World) (kk : Below W0.heap.size W0 W) => Check_calls vb b k d us h'.len W (h0'.at_.at_.belowN kk) (by omega) hl6' C2 hC2)
      by_cases hg : 100 < m
      · have hg1 : (100 : Int) < (m : Int) := by omega
        clear hg f1 f2 f3 f4 hl6 hl6'
        clear hQ1 hQ2 h h0 h' h0' hW0 hx hx0 hm hC1 hC2
        go_enter Try.func5, Try.ntmps5
        go_wp2_with (first
          | (go_at_call 8; (try rw [HW0.out]); (with_reducible refine (HF1.out _ hB).mono ?_); rintro v wx ⟨rfl, hbx⟩; have hB := hB.trans (hbx.mono hB.size); obtain ⟨⟨r0, r1, r2, r3⟩, ⟨s0, s1, s2, s3⟩⟩ := HXI.out _ hB)
          | (go_at_call 8; (with_reducible refine (HF2.out _ hB).mono ?_); rintro v wx ⟨rfl, hbx⟩; have hB := hB.trans (hbx.mono hB.size); obtain ⟨⟨r0, r1, r2, r3⟩, ⟨s0, s1, s2, s3⟩⟩ := HXI.out _ hB)
          | (go_at_call 9; (with_reducible refine (HGO.out _).mono ?_); rintro v wx ⟨rfl, hbx⟩; have hB := hB.trans (hbx.mono hB.size); obtain ⟨⟨r0, r1, r2, r3⟩, ⟨s0, s1, s2, s3⟩⟩ := HXI.out _ hB))
        go_ret
        exact ⟨rfl, hb0.trans (hB.mono hb0.size)⟩
      have hg1 : ¬ (100 : Int) < (m : Int) := by omega
      cases C1 with
      | false =>
        clear hg f1 f2 f3 f4 hl6 hl6'
        clear hQ1 hQ2 h h0 h' h0' hW0 hx hx0 hm hC1 hC2
        go_enter Try.func5, Try.ntmps5
        go_wp2_with (first
          | (go_at_call 8; (try rw [HW0.out]); (with_reducible refine (HF1.out _ hB).mono ?_); rintro v wx ⟨rfl, hbx⟩; have hB := hB.trans (hbx.mono hB.size); obtain ⟨⟨r0, r1, r2, r3⟩, ⟨s0, s1, s2, s3⟩⟩ := HXI.out _ hB)
          | (go_at_call 8; (with_reducible refine (HF2.out _ hB).mono ?_); rintro v wx ⟨rfl, hbx⟩; have hB := hB.trans (hbx.mono hB.size); obtain ⟨⟨r0, r1, r2, r3⟩, ⟨s0, s1, s2, s3⟩⟩ := HXI.out _ hB)
          | (go_at_call 21; (with_reducible refine (HC1.out _ hB).mono ?_); rintro v wx ⟨rfl, hbx⟩; have hB := hB.trans (hbx.mono hB.size); obtain ⟨⟨r0, r1, r2, r3⟩, ⟨s0, s1, s2, s3⟩⟩ := HXI.out _ hB)
          | (go_at_call 21; (with_reducible refine (HC2.out _ hB).mono ?_); rintro v wx ⟨rfl, hbx⟩; have hB := hB.trans (hbx.mono hB.size); obtain ⟨⟨r0, r1, r2, r3⟩, ⟨s0, s1, s2, s3⟩⟩ := HXI.out _ hB)
          | (go_at_call 9; (with_reducible refine (HGO.out _).mono ?_); rintro v wx ⟨rfl, hbx⟩; have hB := hB.trans (hbx.mono hB.size); obtain ⟨⟨r0, r1, r2, r3⟩, ⟨s0, s1, s2, s3⟩⟩ := HXI.out _ hB))
        go_ret
        exact ⟨rfl, hb0.trans (hB.mono hb0.size)⟩
      | true =>
        cases C2 with
        | false =>
          clear hg f1 f2 f3 f4 hl6 hl6'
          clear hQ1 hQ2 h h0 h' h0' hW0 hx hx0 hm hC1 hC2
          go_enter Try.func5, Try.ntmps5
          go_wp2_with (first
            | (go_at_call 8; (try rw [HW0.out]); (with_reducible refine (HF1.out _ hB).mono ?_); rintro v wx ⟨rfl, hbx⟩; have hB := hB.trans (hbx.mono hB.size); obtain ⟨⟨r0, r1, r2, r3⟩, ⟨s0, s1, s2, s3⟩⟩ := HXI.out _ hB)
            | (go_at_call 8; (with_reducible refine (HF2.out _ hB).mono ?_); rintro v wx ⟨rfl, hbx⟩; have hB := hB.trans (hbx.mono hB.size); obtain ⟨⟨r0, r1, r2, r3⟩, ⟨s0, s1, s2, s3⟩⟩ := HXI.out _ hB)
            | (go_at_call 21; (with_reducible refine (HC1.out _ hB).mono ?_); rintro v wx ⟨rfl, hbx⟩; have hB := hB.trans (hbx.mono hB.size); obtain ⟨⟨r0, r1, r2, r3⟩, ⟨s0, s1, s2, s3⟩⟩ := HXI.out _ hB)
            | (go_at_call 21; (with_reducible refine (HC2.out _ hB).mono ?_); rintro v wx ⟨rfl, hbx⟩; have hB := hB.trans (hbx.mono hB.size); obtain ⟨⟨r0, r1, r2, r3⟩, ⟨s0, s1, s2, s3⟩⟩ := HXI.out _ hB)
            | (go_at_call 9; (with_reducible refine (HGO.out _).mono ?_); rintro v wx ⟨rfl, hbx⟩; have hB := hB.trans (hbx.mono hB.size); obtain ⟨⟨r0, r1, r2, r3⟩, ⟨s0, s1, s2, s3⟩⟩ := HXI.out _ hB))
          go_ret
          exact ⟨rfl, hb0.trans (hB.mono hb0.size)⟩
        | true =>
          by_cases hvb : va = vb
          case neg =>
            have g1 : (va != vb) = true := by simpa using hvb
            have g2 : (va == vb) = false := by simpa using hvb
            clear hvb hg f1 f2 f3 f4 hl6 hl6'
            clear hQ1 hQ2 h h0 h' h0' hW0 hx hx0 hm hC1 hC2
            go_enter Try.func5, Try.ntmps5
            go_wp2_with (first
              | (go_at_call 8; (try rw [HW0.out]); (with_reducible refine (HF1.out _ hB).mono ?_); rintro v wx ⟨rfl, hbx⟩; have hB := hB.trans (hbx.mono hB.size); obtain ⟨⟨r0, r1, r2, r3⟩, ⟨s0, s1, s2, s3⟩⟩ := HXI.out _ hB)
              | (go_at_call 8; (with_reducible refine (HF2.out _ hB).mono ?_); rintro v wx ⟨rfl, hbx⟩; have hB := hB.trans (hbx.mono hB.size); obtain ⟨⟨r0, r1, r2, r3⟩, ⟨s0, s1, s2, s3⟩⟩ := HXI.out _ hB)
              | (go_at_call 21; (with_reducible refine (HC1.out _ hB).mono ?_); rintro v wx ⟨rfl, hbx⟩; have hB := hB.trans (hbx.mono hB.size); obtain ⟨⟨r0, r1, r2, r3⟩, ⟨s0, s1, s2, s3⟩⟩ := HXI.out _ hB)
              | (go_at_call 21; (with_reducible refine (HC2.out _ hB).mono ?_); rintro v wx ⟨rfl, hbx⟩; have hB := hB.trans (hbx.mono hB.size); obtain ⟨⟨r0, r1, r2, r3⟩, ⟨s0, s1, s2, s3⟩⟩ := HXI.out _ hB)
              | (go_at_call 9; (with_reducible refine (HGO.out _).mono ?_); rintro v wx ⟨rfl, hbx⟩; have hB := hB.trans (hbx.mono hB.size); obtain ⟨⟨r0, r1, r2, r3⟩, ⟨s0, s1, s2, s3⟩⟩ := HXI.out _ hB))
            go_ret
            exact ⟨rfl, hb0.trans (hB.mono hb0.size)⟩
          case pos =>
            subst hvb
            have g1 : (va != va) = false := by simp
            by_cases hmv : (m : Int) = va
            case neg =>
              have g3 : ((m : Int) != va) = true := by simpa using hmv
              have g4 : ((m : Int) == va) = false := by simpa using hmv
              clear hmv hg f1 f2 f3 f4 hl6 hl6'
              clear hQ1 hQ2 h h0 h' h0' hW0 hx hx0 hm hC1 hC2
              go_enter Try.func5, Try.ntmps5
              go_wp2_with (first
                | (go_at_call 8; (try rw [HW0.out]); (with_reducible refine (HF1.out _ hB).mono ?_); rintro v wx ⟨rfl, hbx⟩; have hB := hB.trans (hbx.mono hB.size); obtain ⟨⟨r0, r1, r2, r3⟩, ⟨s0, s1, s2, s3⟩⟩ := HXI.out _ hB)
                | (go_at_call 8; (with_reducible refine (HF2.out _ hB).mono ?_); rintro v wx ⟨rfl, hbx⟩; have hB := hB.trans (hbx.mono hB.size); obtain ⟨⟨r0, r1, r2, r3⟩, ⟨s0, s1, s2, s3⟩⟩ := HXI.out _ hB)
                | (go_at_call 21; (with_reducible refine (HC1.out _ hB).mono ?_); rintro v wx ⟨rfl, hbx⟩; have hB := hB.trans (hbx.mono hB.size); obtain ⟨⟨r0, r1, r2, r3⟩, ⟨s0, s1, s2, s3⟩⟩ := HXI.out _ hB)
                | (go_at_call 21; (with_reducible refine (HC2.out _ hB).mono ?_); rintro v wx ⟨rfl, hbx⟩; have hB := hB.trans (hbx.mono hB.size); obtain ⟨⟨r0, r1, r2, r3⟩, ⟨s0, s1, s2, s3⟩⟩ := HXI.out _ hB)
                | (go_at_call 9; (with_reducible refine (HGO.out _).mono ?_); rintro v wx ⟨rfl, hbx⟩; have hB := hB.trans (hbx.mono hB.size); obtain ⟨⟨r0, r1, r2, r3⟩, ⟨s0, s1, s2, s3⟩⟩ := HXI.out _ hB))
              go_ret
              exact ⟨rfl, hb0.trans (hB.mono hb0.size)⟩
            case pos =>
              have g3 : ((m : Int) != va) = false := by simpa using hmv
              obtain ⟨u1, u2⟩ := eval_ok hC1 hm hmv
              obtain ⟨u3, u4⟩ := eval_ok hC2 hm hmv
              have hln : ts.length + us.length ≤ 4096 := by have := h.len; have := h'.len; omega
              have hlm : ts.length * us.length ≤ 4096 := Nat.le_trans (Nat.mul_le_mul (show ts.length ≤ 25 by omega) (show us.length ≤ 25 by omega)) (by decide)
              obtain ⟨ad1, ad2, ad3, ad4⟩ := add_facts hC1 hC2 hln
              have hmf := mul_facts hC1 hC2 hlm
              obtain ⟨x, hx9⟩ : ∃ x, evalT xs ts = x := ⟨_, rfl⟩
              obtain ⟨y, hy9⟩ : ∃ y, evalT xs us = y := ⟨_, rfl⟩
              have hoA := checkP_ok hC1
              have hoB := checkP_ok hC2
              have hsum : evalT xs (sortT (ts ++ us)) = x + y := by rw [eval_add xs (hoA.can.len.app hoB.can.len), hx9, hy9]
              have hprod : evalT xs (mulT ts us) = x * y := by rw [eval_mul xs hoA.can.len hoB.can.len (rightL_in hoA.right) (rightL_in hoB.right), hx9, hy9]
              obtain ⟨s1, s2⟩ := eval_ok ad4 hm hmv
              rw [hx9] at u1
              rw [hy9] at u3
              rw [hsum] at s1
              obtain ⟨S, hS⟩ : ∃ S, sortT (ts ++ us) = S := ⟨_, rfl⟩
              rw [hS] at ad3 s1 s2
              have hSO : OutOk S := by rw [← ad3]; exact res_out _ _ _
              obtain ⟨z, hz9⟩ : ∃ z, x + y = z := ⟨_, rfl⟩
              obtain ⟨q, hq9⟩ : ∃ q, x * y = q := ⟨_, rfl⟩
              have hra := fun (W : World) (ra : Option Addr) (rc : Nat) (hh : At W ra [x, y]) => RAdd_calls x y ra rc W hh
              have hrm := fun (W : World) (ra : Option Addr) (rc : Nat) (hh : At W ra [x, y]) => RMul_calls x y ra rc W hh
              rw [hz9] at s1 hsum hra
              rw [hq9] at hprod hrm
              have HRA := hide hra
              have HRM := hide hrm
              clear hra hrm
              have H1 := hide (fun (W : World) (kk : Below W0.heap.size W0 W) => Eval_calls va a n c ts h.len xa m xc xs hm W (h0.at_.at_.belowN kk) (hx0.belowN kk) (by omega) hl6 x u1 0 u2)
              have H2 := hide (fun (W : World) (kk : Below W0.heap.size W0 W) => Eval_calls va b k d us h'.len xa m xc xs hm W (h0'.at_.at_.belowN kk) (hx0.belowN kk) (by omega) hl6' y u3 0 u4)
              have H3 := hide (fun (W : World) (kk : Below W0.heap.size W0 W) => PAdd_calls (fun _ => True) (fun _ => True) va va a b n c k d ts us W (h0.belowN kk) (h0'.belowN kk) (by omega) (by omega) hl6 hl6' va S 0 ad2 ad3 ad1)
              have H5 := hide (fun (W : World) (kk : Below W0.heap.size W0 W) (P : Nat → Prop) (a3 : Option Addr) (n3 c3 : Nat) (kT : TOut P W a3 n3 c3 S) => Eval_calls va a3 n3 c3 S kT.len xa m xc xs hm W kT.at_.at_ (hx0.belowN kk) (by rw [kT.len]; exact Nat.le_trans hSO.len (by decide)) hSO.six z s1 0 s2)
              have e2 : ((z.toNat : Int) != (z.toNat : Int)) = false := by simp
              have e3 : ((q.toNat : Int) == (q.toNat : Int)) = true := by simp
              rcases hmf with ⟨m1, m2, m3⟩ | ⟨m1, m2, m3, m4, m5⟩
              · obtain ⟨U, hU⟩ : ∃ U, evalV 0 [] xs = U := ⟨_, rfl⟩
                obtain ⟨F, hF⟩ : ∃ F, evalE 0 [] m = F := ⟨_, rfl⟩
                have H4 := hide (fun (W : World) (kk : Below W0.heap.size W0 W) => PMul_calls (fun _ => True) (fun _ => True) va va a b n c k d ts us W (h0.belowN kk) (h0'.belowN kk) (by omega) (by omega) hl6 hl6' 0 [] 20 m2 m3 m1)
                have H6 := hide (fun (W : World) (kk : Below W0.heap.size W0 W) (P : Nat → Prop) (a3 : Option Addr) (n3 c3 : Nat) (kT : TOut P W a3 n3 c3 []) => Eval_calls 0 a3 n3 c3 [] kT.len xa m xc xs hm W kT.at_.at_ (hx0.belowN kk) (by rw [kT.len]; decide) (fun t ht => by simp at ht) U hU F hF)
                clear hQ1 hQ2 h h0 h' h0' hW0 hx hx0 hm hC1 hC2 hmv hg f1 f2 f3 f4 hl6 hl6' u1 u2 u3 u4 hln hlm ad1 ad2 ad3 ad4 m1 m2 m3 hx9 hy9 hoA hoB hsum hprod s1 s2 hS hU hF hz9 hq9
                go_enter Try.func5, Try.ntmps5
                go_wp2_with (first
                  | (go_at_call 8; (try rw [HW0.out]); (with_reducible refine (HF1.out _ hB).mono ?_); rintro v wx ⟨rfl, hbx⟩; have hB := hB.trans (hbx.mono hB.size); obtain ⟨⟨r0, r1, r2, r3⟩, ⟨s0, s1, s2, s3⟩⟩ := HXI.out _ hB)
                  | (go_at_call 8; (with_reducible refine (HF2.out _ hB).mono ?_); rintro v wx ⟨rfl, hbx⟩; have hB := hB.trans (hbx.mono hB.size); obtain ⟨⟨r0, r1, r2, r3⟩, ⟨s0, s1, s2, s3⟩⟩ := HXI.out _ hB)
                  | (go_at_call 21; (with_reducible refine (HC1.out _ hB).mono ?_); rintro v wx ⟨rfl, hbx⟩; have hB := hB.trans (hbx.mono hB.size); obtain ⟨⟨r0, r1, r2, r3⟩, ⟨s0, s1, s2, s3⟩⟩ := HXI.out _ hB)
                  | (go_at_call 21; (with_reducible refine (HC2.out _ hB).mono ?_); rintro v wx ⟨rfl, hbx⟩; have hB := hB.trans (hbx.mono hB.size); obtain ⟨⟨r0, r1, r2, r3⟩, ⟨s0, s1, s2, s3⟩⟩ := HXI.out _ hB)
                  | (go_at_call 23; (with_reducible refine (H3.out _ hB).mono ?_); rintro v w3 ⟨a3, n3, c3, rfl, hT3, hb3⟩; have hbx3 := below_box w3 (.cells #[.int .i64 va, .slice a3 n3 c3] 24); have hX3 := Blk.new w3 24 #[.int .i64 va, .slice a3 n3 c3]; have hT3 := hT3.belowN hbx3; have hst := hb3.trans (hbx3.mono hb3.size); (try have hX3 := hX3.belowN hst); (try have hT3 := hT3.belowN hst); have hB := hB.trans (hst.mono hB.size); obtain ⟨⟨r0, r1, r2, r3⟩, ⟨s0, s1, s2, s3⟩⟩ := HXI.out _ hB; (try obtain ⟨y0, y1, y2, y3⟩ := hX3.c2); (try obtain ⟨z0, z1, z2, z3⟩ := hX4.c2))
                  | (go_at_call 24; (with_reducible refine (H4.out _ hB).mono ?_); rintro v w4 ⟨a4, n4, c4, rfl, hT4, hb4⟩; have hbx4 := below_box w4 (.cells #[.int .i64 0, .slice a4 n4 c4] 24); have hX4 := Blk.new w4 24 #[.int .i64 0, .slice a4 n4 c4]; have hT4 := hT4.belowN hbx4; have hst := hb4.trans (hbx4.mono hb4.size); (try have hX3 := hX3.belowN hst); (try have hT3 := hT3.belowN hst); have hB := hB.trans (hst.mono hB.size); obtain ⟨⟨r0, r1, r2, r3⟩, ⟨s0, s1, s2, s3⟩⟩ := HXI.out _ hB; (try obtain ⟨y0, y1, y2, y3⟩ := hX3.c2); (try obtain ⟨z0, z1, z2, z3⟩ := hX4.c2))
                  | (go_at_call 12; (with_reducible refine (H1.out _ hB).mono ?_); rintro v wx ⟨rfl, hbx⟩; have hB := hB.trans (hbx.mono hB.size); obtain ⟨⟨r0, r1, r2, r3⟩, ⟨s0, s1, s2, s3⟩⟩ := HXI.out _ hB; (try have hX3 := hX3.belowN hbx); (try have hT3 := hT3.belowN hbx); (try have hX4 := hX4.belowN hbx); (try have hT4 := hT4.belowN hbx); (try obtain ⟨y0, y1, y2, y3⟩ := hX3.c2); (try obtain ⟨z0, z1, z2, z3⟩ := hX4.c2))
                  | (go_at_call 12; (with_reducible refine (H2.out _ hB).mono ?_); rintro v wx ⟨rfl, hbx⟩; have hB := hB.trans (hbx.mono hB.size); obtain ⟨⟨r0, r1, r2, r3⟩, ⟨s0, s1, s2, s3⟩⟩ := HXI.out _ hB; (try have hX3 := hX3.belowN hbx); (try have hT3 := hT3.belowN hbx); (try have hX4 := hX4.belowN hbx); (try have hT4 := hT4.belowN hbx); (try obtain ⟨y0, y1, y2, y3⟩ := hX3.c2); (try obtain ⟨z0, z1, z2, z3⟩ := hX4.c2))
                  | (go_at_call 12; (with_reducible refine (H5.out _ hB _ _ _ _ hT3).mono ?_); rintro v w5 ⟨rfl, hb5⟩; have hst := hb5.trans ((below_box w5 (.cells #[.int .u64 (x.toNat : Int), .int .u64 (y.toNat : Int)] 33)).mono hb5.size); have hB := hB.trans (hst.mono hB.size); have hX4 := hX4.belowN hst; have hT4 := hT4.belowN hst; obtain ⟨z0, z1, z2, z3⟩ := hX4.c2; have hR5 : At (w5.alloc (.cells #[.int .u64 (x.toNat : Int), .int .u64 (y.toNat : Int)] 33)) (some ⟨w5.heap.size, 0, none⟩) [x, y] := At.ofBlk (Blk.new w5 _ #[.int .u64 (x.toNat : Int), .int .u64 (y.toNat : Int)]) _ rfl)
                  | (go_at_call 12; (with_reducible refine (H6.out _ hB _ _ _ _ hT4).mono ?_); rintro v wx ⟨rfl, hbx⟩; have hB := hB.trans (hbx.mono hB.size); obtain ⟨⟨r0, r1, r2, r3⟩, ⟨s0, s1, s2, s3⟩⟩ := HXI.out _ hB; (try have hX3 := hX3.belowN hbx); (try have hT3 := hT3.belowN hbx); (try have hX4 := hX4.belowN hbx); (try have hT4 := hT4.belowN hbx); (try obtain ⟨y0, y1, y2, y3⟩ := hX3.c2); (try obtain ⟨z0, z1, z2, z3⟩ := hX4.c2))
                  | (go_at_call 25; (with_reducible refine (HRA.out _ _ _ hR5).mono ?_); rintro v wx ⟨rfl, rfl⟩)
                  | (go_at_call 26; (with_reducible refine (HRM.out _ _ _ hR6).mono ?_); rintro v wx ⟨rfl, rfl⟩)
                  | (go_at_call 9; (with_reducible refine (HGO.out _).mono ?_); rintro v wx ⟨rfl, hbx⟩; have hB := hB.trans (hbx.mono hB.size); obtain ⟨⟨r0, r1, r2, r3⟩, ⟨s0, s1, s2, s3⟩⟩ := HXI.out _ hB))
                go_ret
                exact ⟨rfl, hb0.trans (hB.mono hb0.size)⟩
              · obtain ⟨v1, v2⟩ := eval_ok m5 hm hmv
                have hlt := rightL_len m4
                have hev : evalT xs (sortT (mulT ts us)) = q := by
                  rw [← hprod]; unfold evalT; exact lin_sort _ _ hlt
                rw [hev] at v1
                obtain ⟨M, hM⟩ : ∃ M, sortT (mulT ts us) = M := ⟨_, rfl⟩
                rw [hM] at m3 v1 v2
                have hMO : OutOk M := by rw [← m3]; exact mres_out _ _ _ _
                have H4 := hide (fun (W : World) (kk : Below W0.heap.size W0 W) => PMul_calls (fun _ => True) (fun _ => True) va va a b n c k d ts us W (h0.belowN kk) (h0'.belowN kk) (by omega) (by omega) hl6 hl6' va M 0 m2 m3 m1)
                have H6 := hide (fun (W : World) (kk : Below W0.heap.size W0 W) (P : Nat → Prop) (a3 : Option Addr) (n3 c3 : Nat) (kT : TOut P W a3 n3 c3 M) => Eval_calls va a3 n3 c3 M kT.len xa m xc xs hm W kT.at_.at_ (hx0.belowN kk) (by rw [kT.len]; exact Nat.le_trans hMO.len (by decide)) hMO.six q v1 0 v2)
                clear hQ1 hQ2 h h0 h' h0' hW0 hx hx0 hm hC1 hC2 hmv hg f1 f2 f3 f4 hl6 hl6' u1 u2 u3 u4 hln hlm ad1 ad2 ad3 ad4 m1 m2 m3 m4 m5 hx9 hy9 hoA hoB hsum hprod s1 s2 hS v1 v2 hlt hev hM hz9 hq9
                go_enter Try.func5, Try.ntmps5
                go_wp2_with (first
                  | (go_at_call 8; (try rw [HW0.out]); (with_reducible refine (HF1.out _ hB).mono ?_); rintro v wx ⟨rfl, hbx⟩; have hB := hB.trans (hbx.mono hB.size); obtain ⟨⟨r0, r1, r2, r3⟩, ⟨s0, s1, s2, s3⟩⟩ := HXI.out _ hB)
                  | (go_at_call 8; (with_reducible refine (HF2.out _ hB).mono ?_); rintro v wx ⟨rfl, hbx⟩; have hB := hB.trans (hbx.mono hB.size); obtain ⟨⟨r0, r1, r2, r3⟩, ⟨s0, s1, s2, s3⟩⟩ := HXI.out _ hB)
                  | (go_at_call 21; (with_reducible refine (HC1.out _ hB).mono ?_); rintro v wx ⟨rfl, hbx⟩; have hB := hB.trans (hbx.mono hB.size); obtain ⟨⟨r0, r1, r2, r3⟩, ⟨s0, s1, s2, s3⟩⟩ := HXI.out _ hB)
                  | (go_at_call 21; (with_reducible refine (HC2.out _ hB).mono ?_); rintro v wx ⟨rfl, hbx⟩; have hB := hB.trans (hbx.mono hB.size); obtain ⟨⟨r0, r1, r2, r3⟩, ⟨s0, s1, s2, s3⟩⟩ := HXI.out _ hB)
                  | (go_at_call 23; (with_reducible refine (H3.out _ hB).mono ?_); rintro v w3 ⟨a3, n3, c3, rfl, hT3, hb3⟩; have hbx3 := below_box w3 (.cells #[.int .i64 va, .slice a3 n3 c3] 24); have hX3 := Blk.new w3 24 #[.int .i64 va, .slice a3 n3 c3]; have hT3 := hT3.belowN hbx3; have hst := hb3.trans (hbx3.mono hb3.size); (try have hX3 := hX3.belowN hst); (try have hT3 := hT3.belowN hst); have hB := hB.trans (hst.mono hB.size); obtain ⟨⟨r0, r1, r2, r3⟩, ⟨s0, s1, s2, s3⟩⟩ := HXI.out _ hB; (try obtain ⟨y0, y1, y2, y3⟩ := hX3.c2); (try obtain ⟨z0, z1, z2, z3⟩ := hX4.c2))
                  | (go_at_call 24; (with_reducible refine (H4.out _ hB).mono ?_); rintro v w4 ⟨a4, n4, c4, rfl, hT4, hb4⟩; have hbx4 := below_box w4 (.cells #[.int .i64 va, .slice a4 n4 c4] 24); have hX4 := Blk.new w4 24 #[.int .i64 va, .slice a4 n4 c4]; have hT4 := hT4.belowN hbx4; have hst := hb4.trans (hbx4.mono hb4.size); (try have hX3 := hX3.belowN hst); (try have hT3 := hT3.belowN hst); have hB := hB.trans (hst.mono hB.size); obtain ⟨⟨r0, r1, r2, r3⟩, ⟨s0, s1, s2, s3⟩⟩ := HXI.out _ hB; (try obtain ⟨y0, y1, y2, y3⟩ := hX3.c2); (try obtain ⟨z0, z1, z2, z3⟩ := hX4.c2))
                  | (go_at_call 12; (with_reducible refine (H1.out _ hB).mono ?_); rintro v wx ⟨rfl, hbx⟩; have hB := hB.trans (hbx.mono hB.size); obtain ⟨⟨r0, r1, r2, r3⟩, ⟨s0, s1, s2, s3⟩⟩ := HXI.out _ hB; (try have hX3 := hX3.belowN hbx); (try have hT3 := hT3.belowN hbx); (try have hX4 := hX4.belowN hbx); (try have hT4 := hT4.belowN hbx); (try obtain ⟨y0, y1, y2, y3⟩ := hX3.c2); (try obtain ⟨z0, z1, z2, z3⟩ := hX4.c2))
                  | (go_at_call 12; (with_reducible refine (H2.out _ hB).mono ?_); rintro v wx ⟨rfl, hbx⟩; have hB := hB.trans (hbx.mono hB.size); obtain ⟨⟨r0, r1, r2, r3⟩, ⟨s0, s1, s2, s3⟩⟩ := HXI.out _ hB; (try have hX3 := hX3.belowN hbx); (try have hT3 := hT3.belowN hbx); (try have hX4 := hX4.belowN hbx); (try have hT4 := hT4.belowN hbx); (try obtain ⟨y0, y1, y2, y3⟩ := hX3.c2); (try obtain ⟨z0, z1, z2, z3⟩ := hX4.c2))
                  | (go_at_call 12; (with_reducible refine (H5.out _ hB _ _ _ _ hT3).mono ?_); rintro v w5 ⟨rfl, hb5⟩; have hst := hb5.trans ((below_box w5 (.cells #[.int .u64 (x.toNat : Int), .int .u64 (y.toNat : Int)] 33)).mono hb5.size); have hB := hB.trans (hst.mono hB.size); have hX4 := hX4.belowN hst; have hT4 := hT4.belowN hst; obtain ⟨z0, z1, z2, z3⟩ := hX4.c2; have hR5 : At (w5.alloc (.cells #[.int .u64 (x.toNat : Int), .int .u64 (y.toNat : Int)] 33)) (some ⟨w5.heap.size, 0, none⟩) [x, y] := At.ofBlk (Blk.new w5 _ #[.int .u64 (x.toNat : Int), .int .u64 (y.toNat : Int)]) _ rfl)
                  | (go_at_call 12; (with_reducible refine (H6.out _ hB _ _ _ _ hT4).mono ?_); rintro v w6 ⟨rfl, hb6⟩; have hst := hb6.trans ((below_box w6 (.cells #[.int .u64 (x.toNat : Int), .int .u64 (y.toNat : Int)] 33)).mono hb6.size); have hB := hB.trans (hst.mono hB.size); have hX4 := hX4.belowN hst; have hT4 := hT4.belowN hst; obtain ⟨z0, z1, z2, z3⟩ := hX4.c2; have hR6 : At (w6.alloc (.cells #[.int .u64 (x.toNat : Int), .int .u64 (y.toNat : Int)] 33)) (some ⟨w6.heap.size, 0, none⟩) [x, y] := At.ofBlk (Blk.new w6 _ #[.int .u64 (x.toNat : Int), .int .u64 (y.toNat : Int)]) _ rfl)
                  | (go_at_call 25; (with_reducible refine (HRA.out _ _ _ hR5).mono ?_); rintro v wx ⟨rfl, rfl⟩)
                  | (go_at_call 26; (with_reducible refine (HRM.out _ _ _ hR6).mono ?_); rintro v wx ⟨rfl, rfl⟩)
                  | (go_at_call 9; (with_reducible refine (HGO.out _).mono ?_); rintro v wx ⟨rfl, hbx⟩; have hB := hB.trans (hbx.mono hB.size); obtain ⟨⟨r0, r1, r2, r3⟩, ⟨s0, s1, s2, s3⟩⟩ := HXI.out _ hB))
                go_ret
                exact ⟨rfl, hb0.trans (hB.mono hb0.size)⟩
end Go.Proofs.Ytcamcnahkdiefaa
