/- Chapter 13: ForwardJoined. -/
import Derived.Test.YtoklehndfncmnaaQn
import Derived.Test.YtoklehndfncmnaaQa
namespace Go.Proofs.Ytoklehndfncmnaa
set_option linter.unusedVariables false
set_option linter.unusedSimpArgs false
open Go.RowKit

theorem uptoL_all (U : List OpD) : uptoL U (-1) = U := by unfold uptoL; rw [if_pos (by omega)]
theorem startR_self (n : Nat) (r : List UInt64) (h : r.length = n) : startR n r = r := by subst h; simp [startR]
/-- one program behind the other -/
theorem run_joined {regs : Int} {l m : List OpD} {r X : List UInt64} (hl : l.length ≤ 60) (hm : m.length ≤ 60) (hul : (unrS regs l).length ≤ 3000) (hum : (unrS regs m).length ≤ 3000)
    (h1 : dimsS regs l r.length = 0) (hX : uptoS regs l r (-1) = X) (h2 : dimsS regs m X.length = 0) : dimsS regs (l ++ m) r.length = 0 ∧ uptoS regs (l ++ m) r (-1) = uptoS regs m X (-1) := by
  obtain ⟨f, rfl, gf, hn⟩ := dims_good h1
  obtain ⟨g, rfl, gg, hn2⟩ := dims_good h2
  rw [unrS_good gf, Fo.unroll_length] at hul
  rw [unrS_good gg, Fo.unroll_length] at hum
  have gj : Good regs (f.app g) := gf.app gg (by unfold Fo.size; omega) (by omega)
  rw [← Fo.app_flat']
  have hXl : X.length = regs.toNat := by rw [← hX, uptoS_good gf hn, runR_length, startR_length _ _ (by omega)]
  refine ⟨dims_of_good gj hn, ?_⟩
  rw [uptoS_good gj hn, uptoS_good gg hn2, uptoL_all, uptoL_all, Fo.unroll_app, runR_append, startR_self _ X hXl]
  rw [uptoS_good gf hn, uptoL_all] at hX
  rw [hX]
set_option maxRecDepth 100000 in
set_option maxHeartbeats 6400000 in
theorem ForwardJoined_calls (regs : Int) (a : Option Addr) (c : Nat) (l : List OpD) (ma : Option Addr) (mc : Nat) (m : List OpD) (ra : Option Addr) (rc : Nat) (r : List UInt64) (w : World) (h : At w a l) (hm : At w ma m) (hr : At w ra r) :
    Calls Try.prog 9 #[.agg #[.int .i64 regs, .slice a l.length c], .slice ma m.length mc, .slice ra r.length rc] w fun e w' => e = .returned (.bool true) ∧ Below w.heap.size w w' := by
  have hbA := below_new12 w (.cells #[.int .i64 regs, .slice a l.length c] 24)
  have hb0 := hbA.alloc (by simp) (.cells #[.int .i64 regs, .slice ma m.length mc] 24)
  have hX := (Blk.new w 24 #[.int .i64 regs, .slice a l.length c]).alloc (.cells #[.int .i64 regs, .slice ma m.length mc] 24)
  have hY := Blk.new (w.alloc (.cells #[.int .i64 regs, .slice a l.length c] 24)) 24 #[.int .i64 regs, .slice ma m.length mc]
  simp only [World.size_alloc] at hY
  have h1 := h.belowN hb0
  have hm1 := hm.belowN hb0
  have hr1 := hr.belowN hb0
  obtain ⟨w0, hw0⟩ : ∃ w0, w0 = (w.alloc (.cells #[.int .i64 regs, .slice a l.length c] 24)).alloc (.cells #[.int .i64 regs, .slice ma m.length mc] 24) := ⟨_, rfl⟩
  rw [← hw0] at hb0 hX hY h1 hm1 hr1
  have HW0 : Hid ((w.alloc (.cells #[.int .i64 regs, .slice a l.length c] 24)).alloc (.cells #[.int .i64 regs, .slice ma m.length mc] 24) = w0) := hw0.symm
  obtain ⟨o0, o1, o2, o3⟩ := hX.c2
  obtain ⟨n0, n1, n2, n3⟩ := hY.c2
  have hz0 := hb0.size
  clear hw0
  by_cases hg : r.length ≤ 100
  · cases hs : small13 regs l 60 with
    | false =>
      have HS := hide hs
      clear hs
      go_enter Try.func9, Try.ntmps9
      go_wp2_with (first
        | (go_at_call 21; rw [HW0.out]; (with_reducible refine (Small13_calls regs a c l _ false HS.out _ h1 (by omega)).mono ?_); rintro e w1 ⟨rfl, hb1⟩; have hB1 := hb0.trans (hb1.mono hz0); have hz1 := hB1.size; obtain ⟨p0, p1, p2, p3⟩ := (hY.belowN hb1).c2)
        | (go_at_call 22; (with_reducible refine (goes13_calls _).mono ?_); rintro e w8 ⟨rfl, hbel8⟩))
      go_ret
      exact ⟨rfl, hB1.trans (hbel8.mono hz1)⟩
    | true =>
      have hsl := small_le hs
      have hsf := small_few hs
      have HS := hide hs
      cases ht : small13 regs m 60 with
      | false =>
        have HT := hide ht
        clear hs ht hsl hsf
        go_enter Try.func9, Try.ntmps9
        go_wp2_with (first
          | (go_at_call 21; first
              | ((with_reducible refine (Small13_calls regs ma mc m _ false HT.out _ hm2 (by omega)).mono ?_); rintro e w2 ⟨rfl, hb2⟩; have hB2 := hB1.trans (hb2.mono hz1); have hz2 := hB2.size)
              | (rw [HW0.out]; (with_reducible refine (Small13_calls regs a c l _ true HS.out _ h1 (by omega)).mono ?_); rintro e w1 ⟨rfl, hb1⟩; have hB1 := hb0.trans (hb1.mono hz0); have hz1 := hB1.size; have hm2 := hm1.belowN hb1; obtain ⟨p0, p1, p2, p3⟩ := (hY.belowN hb1).c2))
          | (go_at_call 22; (with_reducible refine (goes13_calls _).mono ?_); rintro e w8 ⟨rfl, hbel8⟩))
        go_ret
        exact ⟨rfl, hB2.trans (hbel8.mono hz2)⟩
      | true =>
        have htl := small_le ht
        have htf := small_few ht
        have HT := hide ht
        obtain ⟨X, hXX⟩ : ∃ X, uptoS regs l r (-1) = X := ⟨_, rfl⟩
        obtain ⟨E, hE⟩ : ∃ E, dimsS regs l r.length = E := ⟨_, rfl⟩
        have hx64 := uptoS_len regs l r (-1)
        rw [hXX] at hx64
        have HXX := hide hXX
        have HE := hide hE
        have hXE : E ≠ 0 → X = [] := fun hne => by rw [← hXX]; exact uptoS_bad (by rw [hE]; exact hne) _
        obtain ⟨Y, hYY⟩ : ∃ Y, uptoS regs m X (-1) = Y := ⟨_, rfl⟩
        obtain ⟨F, hF⟩ : ∃ F, dimsS regs m X.length = F := ⟨_, rfl⟩
        have hy64 := uptoS_len regs m X (-1)
        rw [hYY] at hy64
        have HYY := hide hYY
        have HF := hide hF
        obtain ⟨Z, hZZ⟩ : ∃ Z, uptoS regs (l ++ m) r (-1) = Z := ⟨_, rfl⟩
        obtain ⟨G, hG⟩ : ∃ G, dimsS regs (l ++ m) r.length = G := ⟨_, rfl⟩
        have hz64 := uptoS_len regs (l ++ m) r (-1)
        rw [hZZ] at hz64
        have HZZ := hide hZZ
        have HG := hide hG
        have hj : E = 0 → F = 0 → G = 0 ∧ Y = Z := fun e1 e2 => by
          obtain ⟨j1, j2⟩ := run_joined (by omega) (by omega) hsf htf (hE.trans e1) hXX (hF.trans e2)
          exact ⟨hG.symm.trans j1, by rw [← hZZ, j2, hYY]⟩
        have hlm : Hid (l.length + m.length = (l ++ m).length) := by simp [Hid]
        clear hs ht hsf htf hXX hE hYY hF hZZ hG
        by_cases hE0 : E = 0
        · subst hE0
          by_cases hF0 : F = 0
          · obtain ⟨rfl, rfl⟩ := hj rfl hF0
            subst hF0
            clear hj hXE
            go_enter Try.func9, Try.ntmps9
            go_wp2_with (first
              | (go_at_call 21; first
                  | ((with_reducible refine (Small13_calls regs ma mc m _ true HT.out _ hm2 (by omega)).mono ?_); rintro e w2 ⟨rfl, hb2⟩; have hB2 := hB1.trans (hb2.mono hz1); have hz2 := hB2.size; have hX2 := hX1.belowN hb2; have hY2 := hY1.belowN hb2; have h3 := h2.belowN hb2; have hm3 := hm2.belowN hb2; have hr3 := hr2.belowN hb2; obtain ⟨q0, q1, q2, q3⟩ := hX2.c2; obtain ⟨q4, q5, q6, q7⟩ := hY2.c2)
                  | (rw [HW0.out]; (with_reducible refine (Small13_calls regs a c l _ true HS.out _ h1 (by omega)).mono ?_); rintro e w1 ⟨rfl, hb1⟩; have hB1 := hb0.trans (hb1.mono hz0); have hz1 := hB1.size; have hX1 := hX.belowN hb1; have hY1 := hY.belowN hb1; have h2 := h1.belowN hb1; have hm2 := hm1.belowN hb1; have hr2 := hr1.belowN hb1; obtain ⟨p0, p1, p2, p3⟩ := hX1.c2; obtain ⟨p4, p5, p6, p7⟩ := hY1.c2))
              | (go_at_call 23; first
                  | (have hgd := hown3; go_must ((with_reducible refine (RunN regs _ _ _ m _ _ _ X _ Y _ rfl rfl HYY.out HF.out hm4 (by omega) hown3.at_ (by omega)).mono ?_); rintro e w4 ⟨a4, c4, rfl, hown4, hb4⟩; have hB4 := hB3.trans (hb4.mono hz3); have hz4 := hB4.size; have hX4 := hX3.belowN hb4; have h5 := h4.belowN hb4; have hm5 := hm4.belowN hb4; have hr5 := hr4.belowN hb4; obtain ⟨s0, s1, s2, s3⟩ := hX4.c2))
                  | ((with_reducible refine (RunN regs _ _ _ l _ _ _ r _ X _ rfl rfl HXX.out HE.out h3 (by omega) hr3 (by omega)).mono ?_); rintro e w3 ⟨a3, c3, rfl, hown3, hb3⟩; have hB3 := hB2.trans (hb3.mono hz2); have hz3 := hB3.size; have hX3 := hX2.belowN hb3; have hY3 := hY2.belowN hb3; have h4 := h3.belowN hb3; have hm4 := hm3.belowN hb3; have hr4 := hr3.belowN hb3; obtain ⟨r0, r1, r2, r3⟩ := hX3.c2; obtain ⟨r4, r5, r6, r7⟩ := hY3.c2))
              | (go_at_call 22; (with_reducible refine (goes13_calls _).mono ?_); rintro e w8 ⟨rfl, hbel8⟩))
            have t1 := hX4.lt
            have hO0 : Own (w4.drew.alloc (.cells #[] 34)) w4.heap.size 34 (some ⟨w4.heap.size, 0, none⟩) 0 ([] : List OpD) := Own.new w4.drew (Nat.le_refl _) 34 OpD
            have hN0 : Below w4.heap.size w4 (w4.drew.alloc (.cells #[] 34)) := Below.alloc (Below.drew (Below.refl _ _)) (Nat.le_refl _) _
            go_region_held3 (fun w' => w'.cell? ⟨w.heap.size, 0, none⟩ = some (.int .i64 regs) ∧ w'.cell? ⟨w.heap.size, 1, none⟩ = some (.slice a l.length c)) (go_keep)
              (first
                | (refine step_pushAll tyO hown6 (l2 := m) (hm5.belowN hB46) rfl rfl rfl rfl (by simp) rfl hz46 (by omega) (by omega) ?_; intro a7 c7 w7 hown7 hg7 _; have hB47 := below_push hB46 hown6 hg7 hz46; have hz47 := hB47.size; obtain ⟨u0, u1, u2, u3⟩ := (hX4.belowN hB47).c2)
                | (refine step_pushAll tyO hO0 (l2 := l) (h5.belowN hN0) rfl rfl rfl rfl rfl rfl (by simp) (by omega) (by omega) ?_; intro a6 c6 w6 hown6 hg6 _; have hB46 := below_push hN0 hO0 hg6 (by simp); have hz46 := hB46.size; obtain ⟨v0, v1, v2, v3⟩ := (hX4.belowN hB46).c2; rw [List.nil_append] at hown6)
                | (go_at_call 23; (with_reducible refine (RunN regs _ _ _ (l ++ m) _ _ _ r _ Y 0 hlm.out rfl HZZ.out HG.out hown7.at_ (by omega) (hr5.belowN hB47) (by omega)).mono ?_); rintro e w8 ⟨a8, c8, rfl, hown8, hb8⟩; have hB48 := hB47.trans (hb8.mono hz47); have hz48 := hB48.size; obtain ⟨y0, y1, y2, y3⟩ := (hX4.belowN hB48).c2))
            have hB8 := hB4.trans (hB48.mono hz4)
            have hz8 := hB8.size
            clear hown6 hown7 hO0 hN0
            go_wp2_with (first
              | (go_at_call 27; go_must ((with_reducible refine (Same5N _ _ _ _ _ _ Y _ rfl rfl (hown4.at_.belowN hB48) hown8.at_ (by omega)).mono ?_); rintro e w9 ⟨rfl, q9, rfl⟩))
              | (go_at_call 22; (with_reducible refine (goes13_calls _).mono ?_); rintro e w10 ⟨rfl, hbel10⟩))
            go_ret
            exact ⟨rfl, (below_drewN hB8 _).trans (hbel10.mono (by simp; omega))⟩
          · have e1 : (F == 0) = false := by simpa using hF0
            have e2 : (F != 0) = true := by simpa using hF0
            clear hj hXE hF0
            go_enter Try.func9, Try.ntmps9
            go_wp2_with (first
              | (go_at_call 21; first
                  | ((with_reducible refine (Small13_calls regs ma mc m _ true HT.out _ hm2 (by omega)).mono ?_); rintro e w2 ⟨rfl, hb2⟩; have hB2 := hB1.trans (hb2.mono hz1); have hz2 := hB2.size; have hX2 := hX1.belowN hb2; have hY2 := hY1.belowN hb2; have h3 := h2.belowN hb2; have hm3 := hm2.belowN hb2; have hr3 := hr2.belowN hb2; obtain ⟨q0, q1, q2, q3⟩ := hX2.c2; obtain ⟨q4, q5, q6, q7⟩ := hY2.c2)
                  | (rw [HW0.out]; (with_reducible refine (Small13_calls regs a c l _ true HS.out _ h1 (by omega)).mono ?_); rintro e w1 ⟨rfl, hb1⟩; have hB1 := hb0.trans (hb1.mono hz0); have hz1 := hB1.size; have hX1 := hX.belowN hb1; have hY1 := hY.belowN hb1; have h2 := h1.belowN hb1; have hm2 := hm1.belowN hb1; have hr2 := hr1.belowN hb1; obtain ⟨p0, p1, p2, p3⟩ := hX1.c2; obtain ⟨p4, p5, p6, p7⟩ := hY1.c2))
              | (go_at_call 23; first
                  | (have hgd := hown3; go_must ((with_reducible refine (RunN regs _ _ _ m _ _ _ X _ Y _ rfl rfl HYY.out HF.out hm4 (by omega) hown3.at_ (by omega)).mono ?_); rintro e w4 ⟨a4, c4, rfl, hown4, hb4⟩; have hB4 := hB3.trans (hb4.mono hz3); have hz4 := hB4.size; have hX4 := hX3.belowN hb4; have h5 := h4.belowN hb4; have hm5 := hm4.belowN hb4; have hr5 := hr4.belowN hb4; obtain ⟨s0, s1, s2, s3⟩ := hX4.c2))
                  | ((with_reducible refine (RunN regs _ _ _ l _ _ _ r _ X _ rfl rfl HXX.out HE.out h3 (by omega) hr3 (by omega)).mono ?_); rintro e w3 ⟨a3, c3, rfl, hown3, hb3⟩; have hB3 := hB2.trans (hb3.mono hz2); have hz3 := hB3.size; have hX3 := hX2.belowN hb3; have hY3 := hY2.belowN hb3; have h4 := h3.belowN hb3; have hm4 := hm3.belowN hb3; have hr4 := hr3.belowN hb3; obtain ⟨r0, r1, r2, r3⟩ := hX3.c2; obtain ⟨r4, r5, r6, r7⟩ := hY3.c2))
              | (go_at_call 22; (with_reducible refine (goes13_calls _).mono ?_); rintro e w8 ⟨rfl, hbel8⟩))
            have t1 := hX4.lt
            have hO0 : Own (w4.drew.alloc (.cells #[] 34)) w4.heap.size 34 (some ⟨w4.heap.size, 0, none⟩) 0 ([] : List OpD) := Own.new w4.drew (Nat.le_refl _) 34 OpD
            have hN0 : Below w4.heap.size w4 (w4.drew.alloc (.cells #[] 34)) := Below.alloc (Below.drew (Below.refl _ _)) (Nat.le_refl _) _
            go_region_held3 (fun w' => w'.cell? ⟨w.heap.size, 0, none⟩ = some (.int .i64 regs) ∧ w'.cell? ⟨w.heap.size, 1, none⟩ = some (.slice a l.length c)) (go_keep)
              (first
                | (refine step_pushAll tyO hown6 (l2 := m) (hm5.belowN hB46) rfl rfl rfl rfl (by simp) rfl hz46 (by omega) (by omega) ?_; intro a7 c7 w7 hown7 hg7 _; have hB47 := below_push hB46 hown6 hg7 hz46; have hz47 := hB47.size; obtain ⟨u0, u1, u2, u3⟩ := (hX4.belowN hB47).c2)
                | (refine step_pushAll tyO hO0 (l2 := l) (h5.belowN hN0) rfl rfl rfl rfl rfl rfl (by simp) (by omega) (by omega) ?_; intro a6 c6 w6 hown6 hg6 _; have hB46 := below_push hN0 hO0 hg6 (by simp); have hz46 := hB46.size; obtain ⟨v0, v1, v2, v3⟩ := (hX4.belowN hB46).c2; rw [List.nil_append] at hown6)
                | (go_at_call 23; (with_reducible refine (RunN regs _ _ _ (l ++ m) _ _ _ r _ Z G hlm.out rfl HZZ.out HG.out hown7.at_ (by omega) (hr5.belowN hB47) (by omega)).mono ?_); rintro e w8 ⟨a8, c8, rfl, hown8, hb8⟩; have hB48 := hB47.trans (hb8.mono hz47); have hz48 := hB48.size; obtain ⟨y0, y1, y2, y3⟩ := (hX4.belowN hB48).c2))
            have hB8 := hB4.trans (hB48.mono hz4)
            have hz8 := hB8.size
            clear hown6 hown7 hO0 hN0
            go_wp2_with (first
              | (go_at_call 22; (with_reducible refine (goes13_calls _).mono ?_); rintro e w10 ⟨rfl, hbel10⟩))
            go_ret
            exact ⟨rfl, hB8.trans (hbel10.mono hz8)⟩
        · have e1 : (E == 0) = false := by simpa using hE0
          have e2 : (E != 0) = true := by simpa using hE0
          have hX0 : X.length = 0 := by rw [hXE hE0]; rfl
          clear hj hXE hE0
          go_enter Try.func9, Try.ntmps9
          go_wp2_with (first
              | (go_at_call 21; first
                  | ((with_reducible refine (Small13_calls regs ma mc m _ true HT.out _ hm2 (by omega)).mono ?_); rintro e w2 ⟨rfl, hb2⟩; have hB2 := hB1.trans (hb2.mono hz1); have hz2 := hB2.size; have hX2 := hX1.belowN hb2; have hY2 := hY1.belowN hb2; have h3 := h2.belowN hb2; have hm3 := hm2.belowN hb2; have hr3 := hr2.belowN hb2; obtain ⟨q0, q1, q2, q3⟩ := hX2.c2; obtain ⟨q4, q5, q6, q7⟩ := hY2.c2)
                  | (rw [HW0.out]; (with_reducible refine (Small13_calls regs a c l _ true HS.out _ h1 (by omega)).mono ?_); rintro e w1 ⟨rfl, hb1⟩; have hB1 := hb0.trans (hb1.mono hz0); have hz1 := hB1.size; have hX1 := hX.belowN hb1; have hY1 := hY.belowN hb1; have h2 := h1.belowN hb1; have hm2 := hm1.belowN hb1; have hr2 := hr1.belowN hb1; obtain ⟨p0, p1, p2, p3⟩ := hX1.c2; obtain ⟨p4, p5, p6, p7⟩ := hY1.c2))
              | (go_at_call 23; first
                  | (have hgd := hown3; go_must ((with_reducible refine (RunN regs _ _ _ m _ _ _ X _ Y _ rfl rfl HYY.out HF.out hm4 (by omega) hown3.at_ (by omega)).mono ?_); rintro e w4 ⟨a4, c4, rfl, hown4, hb4⟩; have hB4 := hB3.trans (hb4.mono hz3); have hz4 := hB4.size; have hX4 := hX3.belowN hb4; have h5 := h4.belowN hb4; have hm5 := hm4.belowN hb4; have hr5 := hr4.belowN hb4; obtain ⟨s0, s1, s2, s3⟩ := hX4.c2))
                  | ((with_reducible refine (RunN regs _ _ _ l _ _ _ r _ X _ rfl rfl HXX.out HE.out h3 (by omega) hr3 (by omega)).mono ?_); rintro e w3 ⟨a3, c3, rfl, hown3, hb3⟩; have hB3 := hB2.trans (hb3.mono hz2); have hz3 := hB3.size; have hX3 := hX2.belowN hb3; have hY3 := hY2.belowN hb3; have h4 := h3.belowN hb3; have hm4 := hm3.belowN hb3; have hr4 := hr3.belowN hb3; obtain ⟨r0, r1, r2, r3⟩ := hX3.c2; obtain ⟨r4, r5, r6, r7⟩ := hY3.c2))
              | (go_at_call 22; (with_reducible refine (goes13_calls _).mono ?_); rintro e w8 ⟨rfl, hbel8⟩))
          go_ret
          exact ⟨rfl, hB3.trans (hbel8.mono hz3)⟩
  · go_enter Try.func9, Try.ntmps9
    go_wp2_with (go_at_call 22; rw [HW0.out]; (with_reducible refine (goes13_calls _).mono ?_); rintro e w8 ⟨rfl, hbel8⟩)
    go_ret
    exact ⟨rfl, hb0.trans (hbel8.mono hz0)⟩
end Go.Proofs.Ytoklehndfncmnaa
