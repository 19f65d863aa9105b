/- Chapter 17: the law TidyMeans. -/
import Derived.Test.YthncfoompoheoaaTh
import Derived.Test.YthncfoompoheoaaW17k
namespace Go.Proofs.Ythncfoompoheoaa
set_option linter.unusedVariables false
set_option linter.unusedSimpArgs false
open Go.RowKit
theorem SizeWN (a : Option Addr) (c n : Nat) (l : List OpD) (hn : n = l.length) (w : World) (X E : Int) (hX : sizeW l = X) (hE : sizeE l = E) (h : At w a l) (hl : n ≤ 1000000) : Calls Try.prog 15 #[.slice a n c] w fun e w' => e = .returned (.tuple #[.int .i64 X, .int .i64 E]) ∧ Below w.heap.size w w' := by
  subst hn hX hE; exact SizeW_calls a c l w h hl
theorem dims_of_check {regs : Int} {l : List OpD} (h : checkS regs l = 0) (n : Nat) : dimsS regs l n = if regs < (n : Int) then 10 else 0 := by
  unfold dimsS; rw [if_neg (by rw [h]; simp)]
theorem upto_len {regs : Int} {f : Fo} (g : Good regs f) {r : List UInt64} {D : Int} (hD : dimsS regs f.flat r.length = D) : (uptoS regs f.flat r (-1)).length = if D = 0 then regs.toNat else 0 := by
  have h1 := g.r1
  by_cases h0 : D = 0
  · rw [if_pos h0]
    have hn : (r.length : Int) ≤ regs := by
      rw [h0, dims_of_check g.check] at hD
      split at hD
      · cases hD
      · omega
    rw [uptoS_good g hn, runR_length, startR_length _ _ (by omega)]
  · rw [if_neg h0, uptoS_bad (by rw [hD]; exact h0)]
    rfl
set_option maxRecDepth 100000 in
set_option maxHeartbeats 6400000 in
theorem TidyMeans_calls (regs : Int) (a : Option Addr) (c : Nat) (l : List OpD) (oa : Option Addr) (oc : Nat) (outs : List Int) (ra : Option Addr) (rc : Nat) (r : List UInt64) (w : World) (h : At w a l) (ho : At w oa outs) (hr : At w ra r) :
    Calls Try.prog 13 #[.agg #[.int .i64 regs, .slice a l.length c], .slice oa outs.length oc, .slice ra r.length rc] w fun e w' => e = .returned (.bool true) ∧ Below w.heap.size w w' := by
  have hb0 := below_new12 w (.cells #[.int .i64 regs, .slice a l.length c] 24)
  have hX := Blk.new w 24 #[.int .i64 regs, .slice a l.length c]
  have h1 := h.belowN hb0
  have ho1 := ho.belowN hb0
  have hr1 := hr.belowN hb0
  obtain ⟨on, hon⟩ : ∃ on, on = outs.length := ⟨_, rfl⟩
  obtain ⟨rn, hrn⟩ : ∃ rn, rn = r.length := ⟨_, rfl⟩
  rw [← hon, ← hrn]
  by_cases hg : 100 < on
  · clear hon hrn
    go_enter Try.func13, Try.ntmps13
    go_wp2_with (go_at_call 43; go_must ((with_reducible refine (goes17_calls _).mono ?_); rintro e w8 ⟨rfl, hb8⟩))
    go_ret
    exact ⟨rfl, hb0.trans (hb8.mono hb0.size)⟩
  by_cases hg2 : 100 < rn
  · clear hon hrn
    go_enter Try.func13, Try.ntmps13
    go_wp2_with (go_at_call 43; go_must ((with_reducible refine (goes17_calls _).mono ?_); rintro e w8 ⟨rfl, hb8⟩))
    go_ret
    exact ⟨rfl, hb0.trans (hb8.mono hb0.size)⟩
  cases hs : small13 regs l 100 with
  | false =>
    have HS := hide hs
    clear hs hon hrn
    go_enter Try.func13, Try.ntmps13
    go_wp2_with (first
      | (go_at_call 28; go_must ((with_reducible refine (Small13_calls regs a c l _ false HS.out _ h1 (by omega)).mono ?_); rintro e w1 ⟨rfl, hb1⟩; have hB1 := hb0.trans (hb1.mono hb0.size); have hz1 := hB1.size))
      | (go_at_call 43; go_must ((with_reducible refine (goes17_calls _).mono ?_); rintro e w8 ⟨rfl, hb8⟩)))
    go_ret
    exact ⟨rfl, hB1.trans (hb8.mono hz1)⟩
  | true =>
    have hl := small_le17 hs
    have HS := hide hs
    have HSM := hide (Small13_calls regs a c l _ true HS.out _ h1 (by omega))
    obtain ⟨ln, hln⟩ : ∃ ln, ln = l.length := ⟨_, rfl⟩
    have hl100 : ln ≤ 100 := by omega
    have htl := tidyL_le regs l outs
    obtain ⟨E, hE⟩ : ∃ E, liveE regs l outs = E := ⟨_, rfl⟩
    obtain ⟨T, hT⟩ : ∃ T, tidyL regs l outs = T := ⟨_, rfl⟩
    rw [hT] at htl
    have HF1 := hide (fun (W : World) (k1 : At W a l) (k2 : At W oa outs) => Tidy_calls regs a c ln l hln oa oc on outs hon W k1 (by omega) k2 (by omega) E T hE hT)
    rw [← hln] at HSM h1 hX hb0 ho1 hr1 ⊢
    by_cases hE0 : E = 0
    case neg =>
      have hT0 : T = [] := by rw [← hT]; unfold tidyL; rw [hE, if_neg hE0]
      subst hT0
      have e1 : (E == 0) = false := by simpa using hE0
      have e2 : (E != 0) = true := by simpa using hE0
      have e3 : regsIf E regs = 0 := by unfold regsIf; rw [if_neg hE0]
      rw [e3] at HF1
      clear hs hon hrn hl hln hE hT hE0 e3
      go_enter Try.func13, Try.ntmps13
      go_wp2_with (first
        | (go_at_call 28; go_must ((with_reducible refine (HSM.out).mono ?_); rintro e w1 ⟨rfl, hC1⟩; have hz1 := hC1.size; obtain ⟨p10, p11, _, _⟩ := (hX.belowN hC1).c2))
        | (go_at_call 48; go_must ((with_reducible refine (HF1.out _ (h1.belowN hC1) (ho1.belowN hC1)).mono ?_); rintro e w2 ⟨a1, c1, n1, rfl, hn1, hown1, hb2⟩; obtain rfl : n1 = 0 := hn1; have hx2 := below_new12 w2 (.cells #[.int .i64 0, .slice a1 0 c1] 24); have hC2 := hC1.trans ((hb2.trans (hx2.mono hb2.size)).mono hz1)))
        | (go_at_call 43; go_must ((with_reducible refine (goes17_calls _).mono ?_); rintro e w8 ⟨rfl, hb8⟩)))
      go_ret
      exact ⟨rfl, hb0.trans ((hC2.trans (hb8.mono hC2.size)).mono hb0.size)⟩
    subst hE0
    obtain ⟨f, rfl, g⟩ := good_of_check (liveE_check hE)
    have hB : outsB regs outs = true := by
      unfold liveE at hE
      rw [if_neg (by rw [g.check]; simp)] at hE
      cases hq : outsB regs outs with
      | true => rfl
      | false => rw [hq] at hE; cases hE
    obtain ⟨G, gG, t1, t2, t3, t4, t5⟩ := tidy_idem g hB
    rw [hT] at t1
    subst t1
    obtain ⟨D, hD⟩ : ∃ D, dimsS regs f.flat r.length = D := ⟨_, rfl⟩
    have hD2 : dimsS regs G.flat r.length = D := by rw [← hD, dims_of_check g.check, dims_of_check gG.check]
    have hDr : D = 0 → (r.length : Int) ≤ regs := fun h0 => by
      rw [h0, dims_of_check g.check] at hD
      split at hD
      · cases hD
      · omega
    have hx1 := upto_len g hD
    have hx2 := upto_len gG hD2
    have hTR := fun (h0 : D = 0) (o : Int) (hm : o ∈ outs) => tidy_runs g gG hB t5 (hDr h0) hm
    obtain ⟨A, hA⟩ : ∃ A, uptoS regs f.flat r (-1) = A := ⟨_, rfl⟩
    obtain ⟨B, hBB⟩ : ∃ B, uptoS regs G.flat r (-1) = B := ⟨_, rfl⟩
    rw [hA] at hx1 hTR
    rw [hBB] at hx2 hTR
    obtain ⟨xn, hxn⟩ : ∃ xn, xn = A.length := ⟨_, rfl⟩
    have hbn : xn = B.length := by rw [hxn, hx1, hx2]
    have hreg1 := g.r1
    have hreg2 := g.r2
    have HOUT : Hid (D = 0 → ∀ (j : Nat) (o : Int), outs[j]? = some o → ∃ on' : Nat, o = on' ∧ on' < xn ∧ ∃ y, A[on']? = some y ∧ B[on']? = some y) := hide fun h0 j o hj => by
      obtain ⟨o1, o2, o3⟩ := hTR h0 o (List.mem_of_getElem? hj)
      rw [if_pos h0] at hx1 hx2
      refine ⟨o.toNat, by omega, by omega, A[o.toNat]'(by omega), List.getElem?_eq_getElem _, ?_⟩
      unfold getR at o3
      rw [List.getElem?_eq_getElem (show o.toNat < A.length by omega), List.getElem?_eq_getElem (show o.toNat < B.length by omega)] at o3
      rw [List.getElem?_eq_getElem (show o.toNat < B.length by omega)]
      exact congrArg some o3.symm
    obtain ⟨z1, z2, _, _⟩ := W9_ok g.ok ⟨g.may, g.few⟩
    obtain ⟨y1, y2, _, _⟩ := W9_ok gG.ok ⟨gG.may, gG.few⟩
    obtain ⟨wf, hwf⟩ : ∃ wf, f.wr = wf := ⟨_, rfl⟩
    obtain ⟨wg, hwg⟩ : ∃ wg, G.wr = wg := ⟨_, rfl⟩
    rw [hwf] at z2 t4
    rw [hwg] at y2 t4
    have hlt : G.flat.length ≤ 4096 := gG.len
    have HW1 := hide (fun (W : World) (k1 : At W a f.flat) => SizeWN a c ln f.flat hln W (wf : Int) 0 z2 z1 k1 (by omega))
    have HR1 := hide (fun (W : World) (k1 : At W a f.flat) (k2 : At W ra r) => RunN regs a c ln f.flat ra rc rn r W A D hln hrn hA hD k1 (by omega) k2 (by omega))
    rw [← hxn] at HR1
    have e3 : regsIf 0 regs = regs := by unfold regsIf; rw [if_pos rfl]
    rw [e3] at HF1
    obtain ⟨Q, hQ⟩ : ∃ Q, G.flat = Q := ⟨_, rfl⟩
    rw [hQ] at HF1 htl hlt t2 t3 y1 y2 hD2 hBB
    have HW2 := hide (fun (p : Option Addr) (cp np : Nat) (hnp : np = Q.length) (W : World) (k1 : At W p Q) => SizeWN p cp np Q hnp W (wg : Int) 0 y2 y1 k1 (by omega))
    have HR2 := hide (fun (p : Option Addr) (cp np : Nat) (hnp : np = Q.length) (W : World) (k1 : At W p Q) (k2 : At W ra r) => RunN regs p cp np Q ra rc rn r W B D hnp hrn hBB hD2 k1 (by omega) k2 (by omega))
    rw [← hbn] at HR2
    have HF2 := hide (fun (p : Option Addr) (cp np : Nat) (hnp : np = Q.length) (W : World) (k1 : At W p Q) (k2 : At W oa outs) => Tidy_calls regs p cp np Q hnp oa oc on outs hon W k1 (by omega) k2 (by omega) 0 Q t3 t2)
    rw [e3] at HF2
    have HON := hide hon
    have hxb : xn ≤ 64 := by rw [hxn, hx1]; split <;> omega
    have hwd : decide ((wg : Int) > (wf : Int)) = false := decide_eq_false (by omega)
    have hwd2 : decide (wf < wg) = false := decide_eq_false (by omega)
    clear hs hon hrn hl hln hE hT g gG hB t2 t3 t5 hD hD2 hDr hx1 hx2 hTR hA hBB hxn hbn z1 z2 y1 y2 hwf hwg e3 hQ hreg1 hreg2
    go_enter Try.func13, Try.ntmps13
    go_wp2_with (first
      | (go_at_call 28; go_must ((with_reducible refine (HSM.out).mono ?_); rintro e w1 ⟨rfl, hC1⟩; have hz1 := hC1.size; obtain ⟨p10, p11, _, _⟩ := (hX.belowN hC1).c2))
      | (have hgd := hC4; go_at_call 48; go_must ((with_reducible refine (HF2.out a1 c1 n1 HN1.out _ (hA2.belowN hE24) (ho1.belowN hC4)).mono ?_); rintro e w5 ⟨a5, c5, n5, rfl, hn5, hown5, hb5⟩; have HN5 := hide hn5; have hx5 := below_new12 w5 (.cells #[.int .i64 regs, .slice a5 n5 c5] 24); have hD5 := hb5.trans (hx5.mono hb5.size); have hC5 := hC4.trans (hD5.mono hC4.size); have hE25 := hE24.trans (hD5.mono hE24.size); have hA5 := hown5.at_.belowN hx5; obtain ⟨q50, q51, _, _⟩ := (hY2.belowN hE25).c2; clear hn5))
      | (go_at_call 48; go_must ((with_reducible refine (HF1.out _ (h1.belowN hC1) (ho1.belowN hC1)).mono ?_); rintro e w2 ⟨a1, c1, n1, rfl, hn1, hown1, hb2⟩; have HN1 := hide hn1; have hn1b : n1 ≤ 4096 := (by omega); have hx2 := below_new12 w2 (.cells #[.int .i64 regs, .slice a1 n1 c1] 24); have hD2 := hb2.trans (hx2.mono hb2.size); have hC2 := hC1.trans (hD2.mono hz1); have hY2 := Blk.new w2 24 #[.int .i64 regs, .slice a1 n1 c1]; have hA2 := hown1.at_.belowN hx2; obtain ⟨p20, p21, _, _⟩ := (hX.belowN hC2).c2; clear hn1))
      | (have hgd := hC3; go_at_call 15; go_must ((with_reducible refine (HW2.out a1 c1 n1 HN1.out _ (hA2.belowN hE23)).mono ?_); rintro e w4 ⟨rfl, hb4⟩; have hC4 := hC3.trans (hb4.mono hC3.size); have hE24 := hE23.trans (hb4.mono hE23.size); obtain ⟨q40, q41, _, _⟩ := (hY2.belowN hE24).c2))
      | (go_at_call 15; go_must ((with_reducible refine (HW1.out _ (h1.belowN hC2)).mono ?_); rintro e w3 ⟨rfl, hb3⟩; have hC3 := hC2.trans (hb3.mono hC2.size); have hE23 := hb3; obtain ⟨q30, q31, _, _⟩ := (hY2.belowN hE23).c2))
      | (go_at_call 50; go_must ((with_reducible refine (Same17_calls regs a1 a5 c1 c5 n1 n5 Q HN1.out HN5.out _ (hA2.belowN hE25) hA5 (by omega)).mono ?_); rintro e w6 ⟨rfl, hb6⟩; have hC6 := hC5.trans (hb6.mono hC5.size); have hE26 := hE25.trans (hb6.mono hE25.size); obtain ⟨p60, p61, _, _⟩ := (hX.belowN hC6).c2))
      | (have hgd := hC7; go_at_call 55; go_must ((with_reducible refine (HR2.out a1 c1 n1 HN1.out _ (hA2.belowN hE27) (hr1.belowN hC7)).mono ?_); rintro e w8 ⟨a8, c8, rfl, hown8, hb8⟩; have hC8 := hC7.trans (hb8.mono hC7.size); have hAA := hown7.at_.belowN hb8; have hBB := hown8.at_; have hoo := ho1.belowN hC8))
      | (go_at_call 55; go_must ((with_reducible refine (HR1.out _ (h1.belowN hC6) (hr1.belowN hC6)).mono ?_); rintro e w7 ⟨a7, c7, rfl, hown7, hb7⟩; have hC7 := hC6.trans (hb7.mono hC6.size); have hE27 := hE26.trans (hb7.mono hE26.size); obtain ⟨q70, q71, _, _⟩ := (hY2.belowN hE27).c2)))
    by_cases hD0 : D = 0
    case neg =>
      have e1 : (D == 0) = false := by simpa using hD0
      have e2 : (D != 0) = true := by simpa using hD0
      clear hD0
      go_loopw [19] (fun jv wr => jv = .int .i64 0 ∧ wr = w8) (fun jv _ => 0)
      case atStart => exact ⟨rfl, rfl⟩
      case round =>
        obtain ⟨rfl, rfl⟩ := hrel
        go_wp2_with (go_at_call 43; go_must ((with_reducible refine (goes17_calls _).mono ?_); rintro e w9 ⟨rfl, hb9⟩))
        go_ret
        exact ⟨rfl, hb0.trans ((hC8.trans (hb9.mono hC8.size)).mono hb0.size)⟩
    subst hD0
    go_loopw [19] (fun jv wr => ∃ j : Nat, jv = .int .i64 j ∧ j ≤ on ∧ ∃ q, wr = w8.drewN q) (fun jv _ => on - (intOf jv).toNat)
    case atStart => exact ⟨0, rfl, by omega, 0, rfl⟩
    case round =>
      obtain ⟨j, rfl, hj, q, rfl⟩ := hrel
      by_cases hjl : j < on
      · obtain ⟨o, ho9⟩ : ∃ o, outs[j]? = some o := ⟨_, List.getElem?_eq_getElem (by rw [← HON.out]; exact hjl)⟩
        obtain ⟨k, rfl, hkx, y, hy1, hy2⟩ := HOUT.out rfl j o ho9
        obtain ⟨b5, o5, rfl, x0⟩ := getI_eq hoo (Below.refl _ _) ho9
        obtain ⟨b6, o6, z6, rfl, hz6, y0⟩ := hAA.getU (Below.refl _ _) (k := k) (List.getElem?_eq_some_iff.1 hy1).1
        obtain rfl : y = z6 := by have := hy1.symm.trans hz6.out; simpa using this
        obtain ⟨b7, o7, z7, rfl, hz7, z0⟩ := hBB.getU (Below.refl _ _) (k := k) (List.getElem?_eq_some_iff.1 hy2).1
        obtain rfl : y = z7 := by have := hy2.symm.trans hz7.out; simpa using this
        have hj0 : (0 : Int) ≤ (j : Int) := by omega
        have hj1 : (j : Int) < (on : Int) := by omega
        have d0 : decide ((k : Int) < 0) = false := decide_eq_false (by omega)
        have d1 : decide ((xn : Int) ≤ (k : Int)) = false := decide_eq_false (by omega)
        have d2 : decide (xn ≤ k) = false := decide_eq_false (by omega)
        clear ho9 hy1 hy2 hz6 hz7
        go_wp2
        go_quiet (fail)
        go_wp2
        go_roundw
        case rel => exact ⟨j + 1, by go_num, by omega, _, rfl⟩
        case measure => simp [intOf]; omega
      · obtain rfl : on = j := by omega
        have hC9 := below_drewN hC8 q
        go_wp2_with (go_at_call 43; go_must ((with_reducible refine (goes17_calls _).mono ?_); rintro e w9 ⟨rfl, hb9⟩))
        go_ret
        exact ⟨rfl, hb0.trans ((hC9.trans (hb9.mono hC9.size)).mono hb0.size)⟩
end Go.Proofs.Ythncfoompoheoaa
