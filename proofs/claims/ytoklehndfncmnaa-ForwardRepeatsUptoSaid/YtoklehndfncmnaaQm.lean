/- Several texts of mine in one file: G12, G12b. -/
import Derived.Test.YtoklehndfncmnaaQj
/- Chapter 12: what must come at any rate. -/
namespace Go.Proofs.Ytoklehndfncmnaa
set_option linter.unusedVariables false
set_option linter.unusedSimpArgs false
open Go.RowKit

theorem good_of_lit {regs : Int} {f : Fo} (hf : f.ok) (h : checkS regs f.flat = 0) : Good regs f := by
  obtain ⟨f', e, g⟩ := good_of_check h
  have := Fo.flat_eq hf g.ok e
  subst this
  exact g

def ex12 : Fo := .rep ⟨7, 0, 0, 0, 2⟩ (.leaf ⟨4, 0, 0, 0, 0⟩ (.rep ⟨7, 0, 0, 0, 9⟩ .nil ⟨0, 0, 0, 0, 0⟩ .nil)) ⟨0, 0, 0, 0, 0⟩ .nil
theorem ex12_good : Good 1 ex12 := good_of_lit (by simp [ex12, Fo.ok]) (by decide)
theorem ex12_code : ex12.bare.code 0 = [(⟨7, 0, 0, 0, 2⟩, 3), (⟨4, 0, 0, 0, 0⟩, 0), (⟨0, 0, 0, 0, 0⟩, 1)] := by decide
theorem ex12_unr : ex12.unroll = [⟨4, 0, 0, 0, 0⟩, ⟨4, 0, 0, 0, 0⟩] := by decide
theorem ex12_len : ex12.bare.gone.length = 5 := by decide
set_option maxRecDepth 100000 in
set_option maxHeartbeats 1600000 in
theorem goes12_calls (w : World) : Calls Try.prog 12 #[] w fun e w' => e = .returned (.bool true) ∧ Below w.heap.size w w' := by
  have hC : ∀ (a : Option Addr) (w : World), At w a ex12.flat → Calls Try.prog 13 #[.agg #[.int .i64 1, .slice a 5 5]] w fun e w' => ∃ a' c', e = .returned (.tuple #[.slice a' 3 c', .int .i64 0]) ∧ Own w' w.heap.size 36 a' c' [((⟨7, 0, 0, 0, 2⟩ : OpD), (3 : Int)), (⟨4, 0, 0, 0, 0⟩, 0), (⟨0, 0, 0, 0, 0⟩, 1)] ∧ Below w.heap.size w w' := by
    intro a w h
    refine (Code_calls 1 a 5 ex12.flat w h (by decide)).mono ?_
    rintro e w' hp
    unfold CodePost at hp
    rw [codeS_good ex12_good, ex12_good.check, ex12_code] at hp
    exact hp
  have hU : ∀ (a : Option Addr) (w : World), At w a ex12.flat → Calls Try.prog 15 #[.agg #[.int .i64 1, .slice a 5 5]] w fun e w' => ∃ a' c', e = .returned (.tuple #[.slice a' 2 c', .int .i64 0]) ∧ Own w' w.heap.size 34 a' c' [(⟨4, 0, 0, 0, 0⟩ : OpD), ⟨4, 0, 0, 0, 0⟩] ∧ Below w.heap.size w w' := by
    intro a w h
    refine (Unroll_calls 1 a 5 ex12.flat w h (by decide)).mono ?_
    rintro e w' hp
    unfold UnrPost at hp
    rw [unrS_good ex12_good, ex12_good.check, ex12_unr] at hp
    exact hp
  have hS : ∀ (a : Option Addr) (w : World), At w a ex12.flat → Calls Try.prog 17 #[.agg #[.int .i64 1, .slice a 5 5]] w fun e w' => e = .returned (.tuple #[.int .i64 5, .int .i64 0]) ∧ Below w.heap.size w w' := by
    intro a w h
    refine (Steps_calls 1 a 5 ex12.flat w h (by decide)).mono ?_
    rintro e w' hp
    rw [stepsS_good ex12_good, ex12_good.check, steps_length, ex12_len] at hp
    exact hp
  have HC := hide hC
  have HU := hide hU
  have HS := hide hS
  have hx0 : At (w.alloc (.cells #[.int .i64 7, .int .i64 0, .int .i64 0, .int .i64 0, .int .u64 2, .int .i64 4, .int .i64 0, .int .i64 0, .int .i64 0, .int .u64 0, .int .i64 7, .int .i64 0, .int .i64 0, .int .i64 0, .int .u64 9, .int .i64 0, .int .i64 0, .int .i64 0, .int .i64 0, .int .u64 0, .int .i64 0, .int .i64 0, .int .i64 0, .int .i64 0, .int .u64 0] 34)) (some ⟨w.heap.size, 0, none⟩) ex12.flat := At.ofBlk (Blk.new w _ #[.int .i64 7, .int .i64 0, .int .i64 0, .int .i64 0, .int .u64 2, .int .i64 4, .int .i64 0, .int .i64 0, .int .i64 0, .int .u64 0, .int .i64 7, .int .i64 0, .int .i64 0, .int .i64 0, .int .u64 9, .int .i64 0, .int .i64 0, .int .i64 0, .int .i64 0, .int .u64 0, .int .i64 0, .int .i64 0, .int .i64 0, .int .i64 0, .int .u64 0]) ex12.flat rfl
  have hB0 := below_new12 w (.cells #[.int .i64 7, .int .i64 0, .int .i64 0, .int .i64 0, .int .u64 2, .int .i64 4, .int .i64 0, .int .i64 0, .int .i64 0, .int .u64 0, .int .i64 7, .int .i64 0, .int .i64 0, .int .i64 0, .int .u64 9, .int .i64 0, .int .i64 0, .int .i64 0, .int .i64 0, .int .u64 0, .int .i64 0, .int .i64 0, .int .i64 0, .int .i64 0, .int .u64 0] 34)
  obtain ⟨w0, hw0⟩ : ∃ w0, w0 = w.alloc (.cells #[.int .i64 7, .int .i64 0, .int .i64 0, .int .i64 0, .int .u64 2, .int .i64 4, .int .i64 0, .int .i64 0, .int .i64 0, .int .u64 0, .int .i64 7, .int .i64 0, .int .i64 0, .int .i64 0, .int .u64 9, .int .i64 0, .int .i64 0, .int .i64 0, .int .i64 0, .int .u64 0, .int .i64 0, .int .i64 0, .int .i64 0, .int .i64 0, .int .u64 0] 34) := ⟨_, rfl⟩
  have hz0 : w0.heap.size = w.heap.size + 1 := by rw [hw0]; simp
  rw [← hw0] at hx0 hB0
  have hx1 := hx0.belowN (below_new12 w0 (.cells #[.int .i64 1, .slice (some ⟨w.heap.size, 0, none⟩) 5 5] 24))
  have hX1 := Blk.new w0 24 #[.int .i64 1, .slice (some ⟨w.heap.size, 0, none⟩) 5 5]
  have hB1 := hB0.trans ((below_new12 w0 (.cells #[.int .i64 1, .slice (some ⟨w.heap.size, 0, none⟩) 5 5] 24)).mono hB0.size)
  obtain ⟨w1, hw1⟩ : ∃ w1, w1 = w0.alloc (.cells #[.int .i64 1, .slice (some ⟨w.heap.size, 0, none⟩) 5 5] 24) := ⟨_, rfl⟩
  rw [← hw1] at hx1 hX1 hB1
  rw [hz0] at hX1
  have HW1 : Hid (((w.alloc (.cells #[.int .i64 7, .int .i64 0, .int .i64 0, .int .i64 0, .int .u64 2, .int .i64 4, .int .i64 0, .int .i64 0, .int .i64 0, .int .u64 0, .int .i64 7, .int .i64 0, .int .i64 0, .int .i64 0, .int .u64 9, .int .i64 0, .int .i64 0, .int .i64 0, .int .i64 0, .int .u64 0, .int .i64 0, .int .i64 0, .int .i64 0, .int .i64 0, .int .u64 0] 34)).alloc (.cells #[.int .i64 1, .slice (some ⟨w.heap.size, 0, none⟩) 5 5] 24)) = w1) := by show _ = _; rw [← hw0, ← hw1]
  obtain ⟨p0, p1, p2, p3⟩ := hX1.c2
  have hz1 := hB1.size
  clear hC hU hS hw0 hw1 hz0 hx0 hB0
  go_enter Try.func12, Try.ntmps12
  go_wp2_with (first
    | (go_at_call 13; rw [HW1.out]; ((with_reducible refine (HC.out _ _ hx1).mono ?_); rintro e w2 ⟨a2, c2, rfl, hown2, hb2⟩; have hx2 := hx1.belowN hb2; have hB2 := hB1.trans (hb2.mono hz1); have hz2 := hB2.size; obtain ⟨r0, r1, r2, r3⟩ := (hX1.belowN hb2).c2; have hX2 := hX1.belowN hb2))
    | (go_at_call 15; ((with_reducible refine (HU.out _ _ hx2).mono ?_); rintro e w3 ⟨a3, c3, rfl, hown3, hb3⟩; have hx3 := hx2.belowN hb3; have hB3 := hB2.trans (hb3.mono hz2); have hz3 := hB3.size; obtain ⟨s0, s1, s2, s3⟩ := (hX2.belowN hb3).c2; have hX3 := hX2.belowN hb3; have hown23 := hown2.belowN hb3; clear hown2))
    | (go_at_call 17; ((with_reducible refine (HS.out _ _ hx3).mono ?_); rintro e w4 ⟨rfl, hb4⟩; have hB4 := hB3.trans (hb4.mono hz3); have hz4 := hB4.size; have hown4 := hown23.belowN hb4; obtain ⟨g, rfl, hg, hg'⟩ := hown4.some_ (by simp); have c0 := hown4.at_.one 0 _ rfl 5 _ rfl; have c1 := hown4.at_.one 2 _ rfl 5 _ rfl; simp only [Flat.n] at c0 c1)))
  go_ret
  exact ⟨rfl, hB4⟩
end Go.Proofs.Ytoklehndfncmnaa

/- Chapter 12: the walks of the laws FlatCodes, FlatUnrolls. -/
namespace Go.Proofs.Ytoklehndfncmnaa
set_option linter.unusedVariables false
set_option linter.unusedSimpArgs false
open Go.RowKit

theorem codeS_le (regs : Int) (l : List OpD) : (codeS regs l).length ≤ 4096 := by
  by_cases hc : checkS regs l = 0
  · obtain ⟨f, rfl, g⟩ := good_of_check hc
    rw [codeS_good g]; exact g.code_length
  · rw [codeS_bad hc]; simp
theorem unrS_le (regs : Int) (l : List OpD) : (unrS regs l).length ≤ 65536 := by
  by_cases hc : checkS regs l = 0
  · obtain ⟨f, rfl, g⟩ := good_of_check hc
    rw [unrS_good g]; exact g.unroll_le
  · rw [unrS_bad hc]; simp
theorem stepsS_le (regs : Int) (l : List OpD) : stepsS regs l ≤ 65536 * 17 := by
  by_cases hc : checkS regs l = 0
  · obtain ⟨f, rfl, g⟩ := good_of_check hc
    rw [stepsS_good g, steps_length]; exact g.gone_le
  · rw [stepsS_bad hc]; simp
theorem CodeR (regs : Int) (a : Option Addr) (c : Nat) (l : List OpD) (w : World) (R : List (OpD × Int)) (E : Int) (hR : codeS regs l = R) (hE : checkS regs l = E) (h : At w a l) (hl : l.length ≤ 1000000) :
    Calls Try.prog 13 #[.agg #[.int .i64 regs, .slice a l.length c]] w fun e w' => ∃ a' c', e = .returned (.tuple #[.slice a' R.length c', .int .i64 E]) ∧ Own w' w.heap.size 36 a' c' R ∧ Below w.heap.size w w' := by
  subst hR hE; exact Code_calls regs a c l w h hl
theorem Code12R (regs : Int) (a : Option Addr) (c : Nat) (l : List OpD) (w : World) (R : List (OpD × Int)) (E : Int) (hR : codeS regs l = R) (hE : checkS regs l = E) (h : At w a l) (hl : l.length ≤ 1000000) :
    Calls Try.prog 14 #[.agg #[.int .i64 regs, .slice a l.length c]] w fun e w' => ∃ a' c', e = .returned (.tuple #[.slice a' R.length c', .int .i64 E]) ∧ Own w' w.heap.size 36 a' c' R ∧ Below w.heap.size w w' := by
  subst hR hE; exact Code12_calls regs a c l w h hl
theorem UnrollR (regs : Int) (a : Option Addr) (c : Nat) (l : List OpD) (w : World) (R : List OpD) (E : Int) (hR : unrS regs l = R) (hE : checkS regs l = E) (h : At w a l) (hl : l.length ≤ 1000000) :
    Calls Try.prog 15 #[.agg #[.int .i64 regs, .slice a l.length c]] w fun e w' => ∃ a' c', e = .returned (.tuple #[.slice a' R.length c', .int .i64 E]) ∧ Own w' w.heap.size 34 a' c' R ∧ Below w.heap.size w w' := by
  subst hR hE; exact Unroll_calls regs a c l w h hl
theorem Unroll12R (regs : Int) (a : Option Addr) (c : Nat) (l : List OpD) (w : World) (R : List OpD) (E : Int) (hR : unrS regs l = R) (hE : checkS regs l = E) (h : At w a l) (hl : l.length ≤ 1000000) :
    Calls Try.prog 16 #[.agg #[.int .i64 regs, .slice a l.length c]] w fun e w' => ∃ a' c', e = .returned (.tuple #[.slice a' R.length c', .int .i64 E]) ∧ Own w' w.heap.size 34 a' c' R ∧ Below w.heap.size w w' := by
  subst hR hE; exact Unroll12_calls regs a c l w h hl

set_option maxRecDepth 100000 in
set_option maxHeartbeats 1600000 in
theorem FlatCodes_calls (regs : Int) (a : Option Addr) (c : Nat) (l : List OpD) (w : World) (h : At w a l) :
    Calls Try.prog 3 #[.agg #[.int .i64 regs, .slice a l.length c]] w fun e w' => e = .returned (.bool true) ∧ Below w.heap.size w w' := by
  have hb0 := below_new12 w (.cells #[.int .i64 regs, .slice a l.length c] 24)
  have hX := Blk.new w 24 #[.int .i64 regs, .slice a l.length c]
  have h1 := h.belowN hb0
  by_cases hl : l.length ≤ 100
  · obtain ⟨R, hR⟩ : ∃ R, codeS regs l = R := ⟨_, rfl⟩
    obtain ⟨E, hE⟩ : ∃ E, checkS regs l = E := ⟨_, rfl⟩
    have hRl := codeS_le regs l
    rw [hR] at hRl
    have HR := hide hR
    have HE := hide hE
    clear hR hE
    go_enter Try.func3, Try.ntmps3
    go_wp2_with (first
      | (go_at_call 13; (with_reducible refine (CodeR regs a c l _ R E HR.out HE.out h1 (by omega)).mono ?_); rintro e w1 ⟨a1, c1, rfl, hown1, hb1⟩; have hB1 := hb0.trans (hb1.mono hb0.size); have hz1 := hB1.size; obtain ⟨q0, q1, q2, q3⟩ := (hX.belowN hb1).c2; have h2 := h1.belowN hb1)
      | (go_at_call 14; (with_reducible refine (Code12R regs a c l _ R E HR.out HE.out h2 (by omega)).mono ?_); rintro e w2 ⟨a2, c2, rfl, hown2, hb2⟩; have hB2 := hB1.trans (hb2.mono hz1); have hz2 := hB2.size; have hm2 := (hown1.belowN hb2).at_; have hn2 := hown2.at_))
    go_loopw [7] (fun i wr => ∃ k : Nat, k ≤ R.length ∧ i = .int .i64 k ∧ ∃ q, wr = w2.drewN q) (fun i _ => R.length - (intOf i).toNat)
    case atStart => exact ⟨0, by omega, rfl, ⟨0, rfl⟩⟩
    case round =>
      obtain ⟨k, hk, rfl, q, rfl⟩ := hrel
      by_cases hlt : k < R.length
      · obtain ⟨b1, off1, rfl, x0, x1, x2, x3, x4, x5⟩ := hm2.getIns (Below.refl _ _) (List.getElem?_eq_getElem hlt)
        obtain ⟨b2, off2, rfl, y0, y1, y2, y3, y4, y5⟩ := hn2.getIns (Below.refl _ _) (List.getElem?_eq_getElem hlt)
        generalize R[k] = X at *
        obtain ⟨⟨xk, xd, xa, xb, xv⟩, xt⟩ := X
        simp only at *
        go_wp2
        go_quiet (fail)
        go_wp2
        go_roundw
        case rel => exact ⟨k + 1, by omega, by go_num, ⟨_, rfl⟩⟩
        case measure => simp [intOf]; omega
      · go_wp2_with (go_at_call 12; (with_reducible refine (goes12_calls _).mono ?_); rintro e w8 ⟨rfl, hbel8⟩)
        go_ret
        exact ⟨rfl, (below_drewN hB2 _).trans (hbel8.mono (by simp; omega))⟩
  · go_enter Try.func3, Try.ntmps3
    go_wp2_with (go_at_call 12; (with_reducible refine (goes12_calls _).mono ?_); rintro e w8 ⟨rfl, hbel8⟩)
    go_ret
    exact ⟨rfl, hb0.trans (hbel8.mono hb0.size)⟩
set_option maxRecDepth 100000 in
set_option maxHeartbeats 1600000 in
theorem FlatUnrolls_calls (regs : Int) (a : Option Addr) (c : Nat) (l : List OpD) (w : World) (h : At w a l) :
    Calls Try.prog 4 #[.agg #[.int .i64 regs, .slice a l.length c]] w fun e w' => e = .returned (.bool true) ∧ Below w.heap.size w w' := by
  have hb0 := below_new12 w (.cells #[.int .i64 regs, .slice a l.length c] 24)
  have hX := Blk.new w 24 #[.int .i64 regs, .slice a l.length c]
  have h1 := h.belowN hb0
  by_cases hl : l.length ≤ 100
  · obtain ⟨R, hR⟩ : ∃ R, unrS regs l = R := ⟨_, rfl⟩
    obtain ⟨E, hE⟩ : ∃ E, checkS regs l = E := ⟨_, rfl⟩
    have hRl := unrS_le regs l
    have hSl := stepsS_le regs l
    have HST := hide (fun w' (g : At w' a l) => Steps_calls regs a c l w' g (by omega))
    have HSU := hide (fun w' (g : At w' a l) => Steps12_calls regs a c l w' g (by omega))
    unfold StepsPost at HSU
    rw [hE] at HST HSU
    generalize stepsS regs l = S at *
    rw [hR] at hRl
    have HR := hide hR
    have HE := hide hE
    clear hR hE
    go_enter Try.func4, Try.ntmps4
    go_wp2_with (first
      | (go_at_call 15; (with_reducible refine (UnrollR regs a c l _ R E HR.out HE.out h1 (by omega)).mono ?_); rintro e w1 ⟨a1, c1, rfl, hown1, hb1⟩; have hB1 := hb0.trans (hb1.mono hb0.size); have hz1 := hB1.size; have hX1 := hX.belowN hb1; obtain ⟨q0, q1, q2, q3⟩ := hX1.c2; have h2 := h1.belowN hb1)
      | (go_at_call 16; (with_reducible refine (Unroll12R regs a c l _ R E HR.out HE.out h2 (by omega)).mono ?_); rintro e w2 ⟨a2, c2, rfl, hown2, hb2⟩; have hB2 := hB1.trans (hb2.mono hz1); have hz2 := hB2.size; have hX2 := hX1.belowN hb2; obtain ⟨r0, r1, r2, r3⟩ := hX2.c2; have h3 := h2.belowN hb2; have hm2 := hown1.belowN hb2)
      | (go_at_call 17; (with_reducible refine (HST.out _ h3).mono ?_); rintro e w3 ⟨rfl, hb3⟩; have hB3 := hB2.trans (hb3.mono hz2); have hz3 := hB3.size; have hX3 := hX2.belowN hb3; obtain ⟨s0, s1, s2, s3⟩ := hX3.c2; have h4 := h3.belowN hb3; have hm3 := hm2.belowN hb3; have hn3 := hown2.belowN hb3)
      | (go_at_call 18; (with_reducible refine (HSU.out _ h4).mono ?_); rintro e w4 ⟨rfl, hb4⟩; have hB4 := hB3.trans (hb4.mono hz3); have hz4 := hB4.size; have hm4 := (hm3.belowN hb4).at_; have hn4 := (hn3.belowN hb4).at_)
      | (go_at_call 19; (with_reducible refine (Ops8_calls _ _ _ _ R _ hm4 hn4 (by omega)).mono ?_); rintro e w6 ⟨rfl, q6, rfl⟩)
      | (go_at_call 12; (with_reducible refine (goes12_calls _).mono ?_); rintro e w8 ⟨rfl, hbel8⟩))
    go_ret
    exact ⟨rfl, (below_drewN hB4 _).trans (hbel8.mono (by simp; omega))⟩
  · go_enter Try.func4, Try.ntmps4
    go_wp2_with (go_at_call 12; (with_reducible refine (goes12_calls _).mono ?_); rintro e w8 ⟨rfl, hbel8⟩)
    go_ret
    exact ⟨rfl, hb0.trans (hbel8.mono hb0.size)⟩
end Go.Proofs.Ytoklehndfncmnaa
