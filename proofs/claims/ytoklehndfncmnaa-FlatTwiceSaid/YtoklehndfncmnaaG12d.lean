/- Chapter 12: the walk of the law FlatTwice. -/
import Derived.Test.YtoklehndfncmnaaG12c
import Derived.Test.YtoklehndfncmnaaJn
import Derived.Test.YtoklehndfncmnaaSt
import Derived.Test.YtoklehndfncmnaaEq2
namespace Go.Proofs.Ytoklehndfncmnaa
set_option linter.unusedVariables false
set_option linter.unusedSimpArgs false
open Go.RowKit

theorem UnrollN (regs : Int) (a : Option Addr) (n c : Nat) (l : List OpD) (w : World) (R : List OpD) (E : Int) (hn : n = l.length) (hR : unrS regs l = R) (hE : checkS regs l = E) (h : At w a l) (hl : n ≤ 1000000) :
    Calls Try.prog 15 #[.agg #[.int .i64 regs, .slice a n c]] w fun e w' => ∃ a' c', e = .returned (.tuple #[.slice a' R.length c', .int .i64 E]) ∧ Own w' w.heap.size 34 a' c' R ∧ Below w.heap.size w w' := by
  subst hn; exact UnrollR regs a c l w R E hR hE h hl

set_option maxRecDepth 100000 in
set_option maxHeartbeats 3200000 in
theorem FlatTwice_calls (regs : Int) (a b : Option Addr) (ca cb : Nat) (l m : List OpD) (w : World) (h : At w a l) (hm : At w b m) :
    Calls Try.prog 6 #[.agg #[.int .i64 regs, .slice a l.length ca], .slice b m.length cb] w fun e w' => e = .returned (.bool true) ∧ Below w.heap.size w w' := by
  have hb0 := below_new12 w (.cells #[.int .i64 regs, .slice a l.length ca] 24)
  by_cases hl : l.length ≤ 60
  rotate_left
  · go_enter Try.func6, Try.ntmps6
    go_wp2_with (go_at_call 12; (with_reducible refine (goes12_calls _).mono ?_); rintro e w8 ⟨rfl, hbel8⟩)
    go_ret
    exact ⟨rfl, hb0.trans (hbel8.mono hb0.size)⟩
  by_cases hml : m.length ≤ 60
  rotate_left
  · go_enter Try.func6, Try.ntmps6
    go_wp2_with (go_at_call 12; (with_reducible refine (goes12_calls _).mono ?_); rintro e w8 ⟨rfl, hbel8⟩)
    go_ret
    exact ⟨rfl, hb0.trans (hbel8.mono hb0.size)⟩
  have hX := (Blk.new w 24 #[.int .i64 regs, .slice a l.length ca]).alloc (.cells #[.int .i64 regs, .slice b m.length cb] 24)
  have hY := Blk.new (w.alloc (.cells #[.int .i64 regs, .slice a l.length ca] 24)) 24 #[.int .i64 regs, .slice b m.length cb]
  have hB1 := hb0.trans ((below_new12 _ (.cells #[.int .i64 regs, .slice b m.length cb] 24)).mono hb0.size)
  have h1 := h.belowN hB1
  have hm1 := hm.belowN hB1
  have hsz1 : (w.alloc (.cells #[.int .i64 regs, .slice a l.length ca] 24)).heap.size = w.heap.size + 1 := by simp
  rw [hsz1] at hY
  clear hsz1
  obtain ⟨W1, hW1⟩ : ∃ W1, W1 = (w.alloc (.cells #[.int .i64 regs, .slice a l.length ca] 24)).alloc (.cells #[.int .i64 regs, .slice b m.length cb] 24) := ⟨_, rfl⟩
  have HW1 := hide hW1.symm
  rw [← hW1] at hX hY hB1 h1 hm1
  have hz1 := hB1.size
  have hxl := hX.lt
  have hyl := hY.lt
  clear hW1
  obtain ⟨A, hA⟩ : ∃ A, unrS regs l = A := ⟨_, rfl⟩
  obtain ⟨E, hE⟩ : ∃ E, checkS regs l = E := ⟨_, rfl⟩
  obtain ⟨B, hBq⟩ : ∃ B, unrS regs m = B := ⟨_, rfl⟩
  obtain ⟨F, hF⟩ : ∃ F, checkS regs m = F := ⟨_, rfl⟩
  have hAl := unrS_le regs l
  have hBl := unrS_le regs m
  rw [hA] at hAl
  rw [hBq] at hBl
  have HA := hide hA
  have HE := hide hE
  have HB := hide hBq
  have HF := hide hF
  obtain ⟨x0, x1, x2, x3⟩ := hX.c2
  by_cases hE0 : E = 0
  rotate_left
  · have e1 : (E == 0) = false := by simpa using hE0
    have e2 : (E != 0) = true := by simpa using hE0
    clear hA hE hBq hF hE0
    go_enter Try.func6, Try.ntmps6
    go_wp2_with (first
    | (go_at_call 15; first
        | (rw [HW1.out]; (with_reducible refine (UnrollR regs a ca l _ A _ HA.out HE.out h1 (by omega)).mono ?_); rintro e w2 ⟨a2, c2, rfl, hown2, hb2⟩; have hB2 := hB1.trans (hb2.mono hz1); have hz2 := hB2.size; have hX2 := hX.belowN hb2; have hY2 := hY.belowN hb2; obtain ⟨q0, q1, q2, q3⟩ := hX2.c2; obtain ⟨r0, r1, r2, r3⟩ := hY2.c2; have h2 := h1.belowN hb2; have hm2 := hm1.belowN hb2)
        | ((with_reducible refine (UnrollR regs b cb m _ B _ HB.out HF.out hm2 (by omega)).mono ?_); rintro e w3 ⟨a3, c3, rfl, hown3, hb3⟩; have hB3 := hB2.trans (hb3.mono hz2); have hz3 := hB3.size; have hX3 := hX2.belowN hb3; obtain ⟨s0, s1, s2, s3⟩ := hX3.c2; have h3 := h2.belowN hb3; have hm3 := hm2.belowN hb3; have hown23 := hown2.belowN hb3; clear hown2 r0 r1 r2 r3 q0 q1 q2 q3))
    | (go_at_call 12; (with_reducible refine (goes12_calls _).mono ?_); rintro e w8 ⟨rfl, hbel8⟩))
    go_ret
    exact ⟨rfl, hB3.trans (hbel8.mono hz3)⟩
  subst hE0
  by_cases hF0 : F = 0
  rotate_left
  · have e1 : (F == 0) = false := by simpa using hF0
    have e2 : (F != 0) = true := by simpa using hF0
    clear hA hE hBq hF hF0
    go_enter Try.func6, Try.ntmps6
    go_wp2_with (first
    | (go_at_call 15; first
        | (rw [HW1.out]; (with_reducible refine (UnrollR regs a ca l _ A _ HA.out HE.out h1 (by omega)).mono ?_); rintro e w2 ⟨a2, c2, rfl, hown2, hb2⟩; have hB2 := hB1.trans (hb2.mono hz1); have hz2 := hB2.size; have hX2 := hX.belowN hb2; have hY2 := hY.belowN hb2; obtain ⟨q0, q1, q2, q3⟩ := hX2.c2; obtain ⟨r0, r1, r2, r3⟩ := hY2.c2; have h2 := h1.belowN hb2; have hm2 := hm1.belowN hb2)
        | ((with_reducible refine (UnrollR regs b cb m _ B _ HB.out HF.out hm2 (by omega)).mono ?_); rintro e w3 ⟨a3, c3, rfl, hown3, hb3⟩; have hB3 := hB2.trans (hb3.mono hz2); have hz3 := hB3.size; have hX3 := hX2.belowN hb3; obtain ⟨s0, s1, s2, s3⟩ := hX3.c2; have h3 := h2.belowN hb3; have hm3 := hm2.belowN hb3; have hown23 := hown2.belowN hb3; clear hown2 r0 r1 r2 r3 q0 q1 q2 q3))
    | (go_at_call 12; (with_reducible refine (goes12_calls _).mono ?_); rintro e w8 ⟨rfl, hbel8⟩))
    go_ret
    exact ⟨rfl, hB3.trans (hbel8.mono hz3)⟩
  subst hF0
  by_cases hAB : 65536 < A.length + B.length
  · clear hA hE hBq hF
    go_enter Try.func6, Try.ntmps6
    go_wp2_with (first
    | (go_at_call 15; first
        | (rw [HW1.out]; (with_reducible refine (UnrollR regs a ca l _ A _ HA.out HE.out h1 (by omega)).mono ?_); rintro e w2 ⟨a2, c2, rfl, hown2, hb2⟩; have hB2 := hB1.trans (hb2.mono hz1); have hz2 := hB2.size; have hX2 := hX.belowN hb2; have hY2 := hY.belowN hb2; obtain ⟨q0, q1, q2, q3⟩ := hX2.c2; obtain ⟨r0, r1, r2, r3⟩ := hY2.c2; have h2 := h1.belowN hb2; have hm2 := hm1.belowN hb2)
        | ((with_reducible refine (UnrollR regs b cb m _ B _ HB.out HF.out hm2 (by omega)).mono ?_); rintro e w3 ⟨a3, c3, rfl, hown3, hb3⟩; have hB3 := hB2.trans (hb3.mono hz2); have hz3 := hB3.size; have hX3 := hX2.belowN hb3; obtain ⟨s0, s1, s2, s3⟩ := hX3.c2; have h3 := h2.belowN hb3; have hm3 := hm2.belowN hb3; have hown23 := hown2.belowN hb3; clear hown2 r0 r1 r2 r3 q0 q1 q2 q3))
    | (go_at_call 12; (with_reducible refine (goes12_calls _).mono ?_); rintro e w8 ⟨rfl, hbel8⟩))
    go_ret
    exact ⟨rfl, hB3.trans (hbel8.mono hz3)⟩
  by_cases hAA : 65536 < 2 * A.length
  · clear hA hE hBq hF
    go_enter Try.func6, Try.ntmps6
    go_wp2_with (first
    | (go_at_call 15; first
        | (rw [HW1.out]; (with_reducible refine (UnrollR regs a ca l _ A _ HA.out HE.out h1 (by omega)).mono ?_); rintro e w2 ⟨a2, c2, rfl, hown2, hb2⟩; have hB2 := hB1.trans (hb2.mono hz1); have hz2 := hB2.size; have hX2 := hX.belowN hb2; have hY2 := hY.belowN hb2; obtain ⟨q0, q1, q2, q3⟩ := hX2.c2; obtain ⟨r0, r1, r2, r3⟩ := hY2.c2; have h2 := h1.belowN hb2; have hm2 := hm1.belowN hb2)
        | ((with_reducible refine (UnrollR regs b cb m _ B _ HB.out HF.out hm2 (by omega)).mono ?_); rintro e w3 ⟨a3, c3, rfl, hown3, hb3⟩; have hB3 := hB2.trans (hb3.mono hz2); have hz3 := hB3.size; have hX3 := hX2.belowN hb3; obtain ⟨s0, s1, s2, s3⟩ := hX3.c2; have h3 := h2.belowN hb3; have hm3 := hm2.belowN hb3; have hown23 := hown2.belowN hb3; clear hown2 r0 r1 r2 r3 q0 q1 q2 q3))
    | (go_at_call 12; (with_reducible refine (goes12_calls _).mono ?_); rintro e w8 ⟨rfl, hbel8⟩))
    go_ret
    exact ⟨rfl, hB3.trans (hbel8.mono hz3)⟩
  obtain ⟨f, hfl, gf⟩ := good_of_check hE
  obtain ⟨g, hgl, gg⟩ := good_of_check hF
  have hA2 : A = f.unroll := by rw [← hA, hfl, unrS_good gf]
  have hB2 : B = g.unroll := by rw [← hBq, hgl, unrS_good gg]
  have hAw : A.length = f.wr := by rw [hA2, Fo.unroll_length]
  have hBw : B.length = g.wr := by rw [hB2, Fo.unroll_length]
  have hfs : f.size = l.length := by rw [hfl]; rfl
  have hgs : g.size = m.length := by rw [hgl]; rfl
  have gj : Good regs (f.app g) := gf.app gg (by omega) (by omega)
  have hjl : (f.app g).flat = l ++ m := by rw [Fo.app_flat', ← hfl, ← hgl]
  have HJ := hide (by rw [← hjl]; exact gj.check : checkS regs (l ++ m) = 0)
  have HJU := hide (by rw [← hjl, unrS_good gj, Fo.unroll_app, hA2, hB2] : unrS regs (l ++ m) = A ++ B)
  have hwl : (wrapF 2 f).flat = ⟨7, 0, 0, 0, 2⟩ :: (l ++ [⟨0, 0, 0, 0, 0⟩]) := by rw [wrapF_flat, ← hfl]
  have hw2 : f.wr * (2 : UInt64).toNat ≤ 65536 := by show f.wr * 2 ≤ 65536; omega
  have HWR : Hid ((checkS regs (⟨7, 0, 0, 0, 2⟩ :: (l ++ [⟨0, 0, 0, 0, 0⟩])) = 0 ∧ unrS regs (⟨7, 0, 0, 0, 2⟩ :: (l ++ [⟨0, 0, 0, 0, 0⟩])) = A ++ A) ∨ checkS regs (⟨7, 0, 0, 0, 2⟩ :: (l ++ [⟨0, 0, 0, 0, 0⟩])) = 8) := by
    show _ ∨ _
    rw [← hwl]
    by_cases hd : f.dp + 1 ≤ 8
    · have gw := gf.wrap 2 (by omega) hw2 hd
      left
      refine ⟨gw.check, ?_⟩
      rw [unrS_good gw, wrapF_unroll, hA2]
      show (List.replicate 2 f.unroll).flatten = _
      simp [List.replicate]
    · exact .inr (wrap_deep gf 2 (by omega) hd)
  have d1 : A.length + B.length ≤ 65536 := by omega
  have d2 : 2 * A.length ≤ 65536 := by omega
  clear hA hE hBq hF hfl hgl gf gg hA2 hB2 hAw hBw hfs hgs gj hjl hwl hw2 hAB hAA
  have hm' : Hid (l.length + m.length = (l ++ m).length) := by simp [Hid]
  go_enter Try.func6, Try.ntmps6
  go_wp2_with (first
    | (go_at_call 15; first
        | (rw [HW1.out]; (with_reducible refine (UnrollR regs a ca l _ A _ HA.out HE.out h1 (by omega)).mono ?_); rintro e w2 ⟨a2, c2, rfl, hown2, hb2⟩; have hB2 := hB1.trans (hb2.mono hz1); have hz2 := hB2.size; have hX2 := hX.belowN hb2; have hY2 := hY.belowN hb2; obtain ⟨q0, q1, q2, q3⟩ := hX2.c2; obtain ⟨r0, r1, r2, r3⟩ := hY2.c2; have h2 := h1.belowN hb2; have hm2 := hm1.belowN hb2)
        | ((with_reducible refine (UnrollR regs b cb m _ B _ HB.out HF.out hm2 (by omega)).mono ?_); rintro e w3 ⟨a3, c3, rfl, hown3, hb3⟩; have hB3 := hB2.trans (hb3.mono hz2); have hz3 := hB3.size; have hX3 := hX2.belowN hb3; obtain ⟨s0, s1, s2, s3⟩ := hX3.c2; have h3 := h2.belowN hb3; have hm3 := hm2.belowN hb3; have hown23 := hown2.belowN hb3; clear hown2 r0 r1 r2 r3 q0 q1 q2 q3))
    | (go_at_call 12; (with_reducible refine (goes12_calls _).mono ?_); rintro e w8 ⟨rfl, hbel8⟩))
  have t1 := hX3.lt
  have hO0 : Own (w3.drew.alloc (.cells #[] 34)) w3.heap.size 34 (some ⟨w3.heap.size, 0, none⟩) 0 ([] : List OpD) := Own.new w3.drew (Nat.le_refl _) 34 OpD
  have hN0 : Below w3.heap.size w3 (w3.drew.alloc (.cells #[] 34)) := Below.alloc (Below.drew (Below.refl _ _)) (Nat.le_refl _) _
  go_region_held3 (fun w' => w'.cell? ⟨w.heap.size, 0, none⟩ = some (.int .i64 regs) ∧ w'.cell? ⟨w.heap.size, 1, none⟩ = some (.slice a l.length ca)) (go_keep)
    (first
      | (refine step_pushAll tyO hown4 (l2 := m) (hm3.belowN hB34) rfl rfl rfl rfl (by simp) rfl hz34 (by omega) (by omega) ?_; intro a5 c5 w5 hown5 hg5 _; have hB35 := below_push hB34 hown4 hg5 hz34; have hz35 := hB35.size; obtain ⟨u0, u1, u2, u3⟩ := (hX3.belowN hB35).c2)
      | (refine step_pushAll tyO hO0 (l2 := l) (h3.belowN hN0) rfl rfl rfl rfl rfl rfl (by simp) (by omega) (by omega) ?_; intro a4 c4 w4 hown4 hg4 _; have hB34 := below_push hN0 hO0 hg4 (by simp); have hz34 := hB34.size; obtain ⟨v0, v1, v2, v3⟩ := (hX3.belowN hB34).c2; rw [List.nil_append] at hown4)
      | (go_at_call 15; (with_reducible refine (UnrollN regs _ _ _ (l ++ m) _ (A ++ B) _ hm'.out HJU.out HJ.out hown5.at_ (by omega)).mono ?_); rintro e w6 ⟨a6, c6, rfl, hown6, hb6⟩; have hB36 := hB35.trans (hb6.mono hz35); have hz36 := hB36.size; have hX6 := (hX3.belowN hB36); obtain ⟨y0, y1, y2, y3⟩ := hX6.c2))
  have hA6 := (hown23.belowN hB36).at_
  have hB6' := (hown3.belowN hB36).at_
  have hC6 := hown6.at_
  have hB06 := hB3.trans (hB36.mono hz3)
  have hz06 := hB06.size
  have h6 := h3.belowN hB36
  have hO1 := Own.new w6 (Nat.le_refl _) 34 OpD
  have hN1 := below_new12 w6 (.cells #[] 34)
  clear hown23 hown3 hown6 h3 hm3 hown4 hown5 hO0 hN0 s0 s1 s2 s3
  go_wp2_with (first
    | (at_builtin; first
        | (refine wpListG_pushAll tyO hown7 (l2 := B) (hB6'.belowN hB67) rfl rfl rfl rfl rfl rfl hz67 (by omega) (by omega) ?_; intro a8 c8 w8 hown8 hg8 _; have hB68 := below_push hB67 hown7 hg8 hz67; have hz68 := hB68.size)
        | (refine wpListG_pushAll tyO hO1 (l2 := A) (hA6.belowN hN1) rfl rfl rfl rfl rfl rfl (by simp) (by omega) (by omega) ?_; intro a7 c7 w7 hown7 hg7 _; have hB67 := below_push hN1 hO1 hg7 (by simp); have hz67 := hB67.size; rw [List.nil_append] at hown7))
    | (go_at_call 19; (with_reducible refine (Ops8N _ _ _ _ _ _ (A ++ B) _ (by simp) (by simp) (hC6.belowN hB68) hown8.at_ (by omega)).mono ?_); rintro e w9 ⟨rfl, q9, hw9⟩; have hB9 := hB06.trans ((below_drewN hB68 q9).mono hz06); have hX9 := (hX6.belowN hB68).drewN q9; have h9 := (h6.belowN hB68).drewN q9; have hA9 := (hA6.belowN hB68).drewN q9; rw [← hw9] at hB9 hX9 h9 hA9; clear hw9; have hz9 := hB9.size; obtain ⟨p0, p1, p2, p3⟩ := hX9.c2; have hO10 := Own.made w9 (Nat.le_refl _) 34 #[.int .i64 7, .int .i64 0, .int .i64 0, .int .i64 0, .int .u64 2] [(⟨7, 0, 0, 0, 2⟩ : OpD)] rfl (by decide) 1 rfl; have hN10 := below_new12 w9 (.cells #[.int .i64 7, .int .i64 0, .int .i64 0, .int .i64 0, .int .u64 2] 34); obtain ⟨p4, p5, p6, p7⟩ := (hX9.belowN hN10).c2; have hX9l := hX9.lt)
    | (at_builtin; first
        | (refine wpList_push tyO hown11 (⟨0, 0, 0, 0, 0⟩ : OpD) rfl rfl rfl rfl rfl rfl (by simp <;> omega) hz11 (by omega) ?_; intro a12 c12 w12 hown12 hg12 _; have hB12 := below_push hB11 hown11 hg12 hz11; have hz12 := hB12.size; have hX12 := hX9.belowN hB12; obtain ⟨o0, o1, o2, o3⟩ := hX12.c2)
        | (refine wpList_pushAll tyO hO10 (l2 := l) (h9.belowN hN10) rfl rfl rfl rfl rfl rfl (by simp) (by omega) (by omega) ?_; intro a11 c11 w11 hown11 hg11 _; have hB11 := below_push hN10 hO10 hg11 (by simp); have hz11 := hB11.size)))
  have hwn : Hid (1 + l.length + 1 = ((⟨7, 0, 0, 0, 2⟩ : OpD) :: (l ++ [⟨0, 0, 0, 0, 0⟩])).length) := by show _ = _; simp <;> omega
  have hWl : At w12 a12 ((⟨7, 0, 0, 0, 2⟩ : OpD) :: (l ++ [⟨0, 0, 0, 0, 0⟩])) := by simpa using hown12.at_
  have hB012 := hB9.trans (hB12.mono hz9)
  have hz012 := hB012.size
  have hA12 := hA9.belowN hB12
  rcases HWR.out with ⟨c0, cu⟩ | c8
  · have HC0 := hide c0
    have HCU := hide cu
    clear c0 cu
    go_wp2_with (first
      | (go_at_call 15; (with_reducible refine (UnrollN regs _ _ _ _ _ (A ++ A) 0 hwn.out HCU.out HC0.out hWl (by omega)).mono ?_); rintro e w13 ⟨a13, c13, rfl, hown13, hb13⟩; have hB13 := hB012.trans (hb13.mono hz012); have hz13 := hB13.size; have hA13 := hA12.belowN hb13; have hO14 := Own.new w13 (Nat.le_refl _) 34 OpD; have hN14 := below_new12 w13 (.cells #[] 34))
      | (at_builtin; first
          | (refine wpListG_pushAll tyO hown15 (l2 := A) (hA13.belowN hB15) rfl rfl rfl rfl rfl rfl hz15 (by omega) (by omega) ?_; intro a16 c16 w16 hown16 hg16 _; have hB16 := below_push hB15 hown15 hg16 hz15; have hz16 := hB16.size)
          | (refine wpListG_pushAll tyO hO14 (l2 := A) (hA13.belowN hN14) rfl rfl rfl rfl rfl rfl (by simp) (by omega) (by omega) ?_; intro a15 c15 w15 hown15 hg15 _; have hB15 := below_push hN14 hO14 hg15 (by simp); have hz15 := hB15.size; rw [List.nil_append] at hown15))
      | (go_at_call 19; (with_reducible refine (Ops8N _ _ _ _ _ _ (A ++ A) _ (by simp) (by simp) (hown13.at_.belowN hB16) hown16.at_ (by omega)).mono ?_); rintro e w17 ⟨rfl, q17, rfl⟩; have hB17 := hB13.trans ((below_drewN hB16 q17).mono hz13))
      | (go_at_call 12; (with_reducible refine (goes12_calls _).mono ?_); rintro e w8 ⟨rfl, hbel8⟩))
    go_ret
    exact ⟨rfl, hB17.trans (hbel8.mono hB17.size)⟩
  · have HC8 := hide c8
    clear c8
    obtain ⟨R, hR⟩ : ∃ R, unrS regs ((⟨7, 0, 0, 0, 2⟩ : OpD) :: (l ++ [⟨0, 0, 0, 0, 0⟩])) = R := ⟨_, rfl⟩
    have HR := hide hR
    clear hR
    go_wp2_with (first
      | (go_at_call 15; (with_reducible refine (UnrollN regs _ _ _ _ _ R 8 hwn.out HR.out HC8.out hWl (by omega)).mono ?_); rintro e w13 ⟨a13, c13, rfl, hown13, hb13⟩; have hB13 := hB012.trans (hb13.mono hz012); have hz13 := hB13.size)
      | (go_at_call 12; (with_reducible refine (goes12_calls _).mono ?_); rintro e w8 ⟨rfl, hbel8⟩))
    go_ret
    exact ⟨rfl, hB13.trans (hbel8.mono hz13)⟩
end Go.Proofs.Ytoklehndfncmnaa
