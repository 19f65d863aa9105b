/- Several texts of mine in one file. -/
import Derived.Test.YtcamcnahkdiefaaGreatYSRam
import Derived.Test.YtcamcnahkdiefaaGreatYSRan
import Derived.Test.YtcamcnahkdiefaaGreatYSRao
/- Chapter 15: what a program's polynomials are at numbers, and their derivatives; the law SymbolRuns, walked. -/
namespace Go.Proofs.YtcamcnahkdiefaaGreat
set_option linter.unusedVariables false
set_option linter.unusedSimpArgs false
open Go.RowKit
theorem startV (r : List UInt64) (h64 : r.length ≤ 64) : (startP r.length).map (evalT r) = r := by
  apply List.ext_getElem?
  intro k
  rw [List.getElem?_map]
  by_cases hk : k < r.length
  · rw [startP_get hk, (var_facts h64 hk).2.2.1]
    have := (var_lin r (List.getElem?_eq_getElem hk) 0).1
    simp [this, hk]
  · rw [List.getElem?_eq_none (by rw [startP_len]; omega), List.getElem?_eq_none (by omega)]; rfl
theorem startD_at (r : List UInt64) (h64 : r.length ≤ 64) (j : Nat) : (startP r.length).map (dvT r j) = unitR r.length j := by
  apply List.ext_getElem?
  intro k
  rw [List.getElem?_map]
  by_cases hk : k < r.length
  · rw [startP_get hk, (var_facts h64 hk).2.2.1]
    have := (var_lin r (List.getElem?_eq_getElem hk) j).2
    unfold unitR
    rw [List.getElem?_set, List.length_replicate, List.getElem?_replicate, if_pos hk]
    simp only [Option.map_some, this]
    by_cases e : k = j
    · subst e; simp [hk]
    · rw [if_neg e, if_neg (Ne.symm e)]
  · rw [List.getElem?_eq_none (by rw [startP_len]; omega), List.getElem?_eq_none (by unfold unitR; simp; omega)]; rfl
/-- what a program's polynomials are at numbers, and their derivatives -/
theorem runs_facts {regs : Int} {l : List OpD} {r : List UInt64} (hr : (r.length : Int) = regs) {R : List (List Tm)} (hR : polysS regs l = (0, R)) :
    dimsS regs l r.length = 0 ∧ dualE regs l r.length = 0 ∧ uptoS regs l r (-1) = R.map (evalT r) ∧ matA regs l r = R.map (fun A => (List.range r.length).map fun j => dvT r j A) := by
  have hc : checkS regs l = 0 := by
    by_cases hc : checkS regs l = 0
    · exact hc
    · unfold polysS at hR
      rw [if_neg hc] at hR
      simp only [Prod.mk.injEq] at hR
      exact absurd hR.1 hc
  obtain ⟨f, rfl, g⟩ := good_of_check hc
  have hlen := (polysS_len hR).1 rfl
  unfold polysS at hR
  rw [if_pos hc, unrS_good g] at hR
  subst hr
  rw [Int.toNat_natCast] at hR hlen
  have h64 : r.length ≤ 64 := by have := g.r2; omega
  have hst : startR r.length r = r := by unfold startR; simp
  have hx : ∀ x ∈ f.unroll, (1 ≤ x.kind ∧ x.kind ≤ 6) ∧ x.a.toNat < (startP r.length).length ∧ x.b.toNat < (startP r.length).length := fun x hx => by
    rw [startP_len]
    have h1 := (f.unroll_mem g.ok x hx).2
    have h2 := g.inR x hx
    exact ⟨h1, by have := h2.2.1; omega, by have := h2.2.2; omega⟩
  have hd : dimsS (r.length : Int) f.flat r.length = 0 := dims_of_good g (by omega)
  have he : dualE (r.length : Int) f.flat r.length = 0 := dualE_of g (by omega)
  refine ⟨hd, he, ?_, ?_⟩
  · have h0 : 0 < r.length := by have := g.r1; omega
    rw [uptoS_good g (by omega), Int.toNat_natCast, hst]
    have := (runS_lin r (j := 0) (by omega) f.unroll _ R hx (startP_all h64) hR).1
    rw [startV r h64] at this
    rw [this]
    rfl
  · rw [matA_good he]
    apply List.ext_getElem?
    intro k
    rw [List.getElem?_map]
    by_cases hk : k < r.length
    · rw [matN_get _ hk, if_neg (Nat.not_lt_zero _), List.getElem?_eq_getElem (by rw [hlen]; exact hk)]
      simp only [Option.map_some, Option.some.injEq]
      refine List.map_congr_left fun j hj => ?_
      have hjn := List.mem_range.1 hj
      rw [alongA_good g (by omega) (by omega) (by omega), Int.toNat_natCast, Int.toNat_natCast, hst]
      have := (runS_lin r (j := j) (by omega) f.unroll _ R hx (startP_all h64) hR).2
      rw [startV r h64, startD_at r h64] at this
      rw [← this, List.getElem?_map, List.getElem?_eq_getElem (by rw [hlen]; exact hk)]
      rfl
    · rw [List.getElem?_eq_none (by rw [matN_len]; omega), List.getElem?_eq_none (by rw [hlen]; omega)]; rfl
theorem sort_dv (xs : List UInt64) {va : Int} {A : List Tm} (hA : checkP va A = true) {j : Nat} (hj : (j : Int) < va) : evalT xs (sortT (drvT j A)) = dvT xs j A := by
  have oA := checkP_ok hA
  unfold evalT dvT evalT
  exact lin_sort _ _ (lenT_of_right (drvT_right (i := j) oA.right))
theorem grad_get {regs : Int} {l : List OpD} {R : List (List Tm)} (hR : polysS regs l = (0, R)) {k : Nat} {A : List Tm} (hA : R[k]? = some A) : gradS regs l (k : Int) = (0, derivs A R.length) := by
  have hk := (List.getElem?_eq_some_iff.1 hA).1
  unfold gradS
  rw [hR]
  simp only
  rw [if_neg (by simp), if_neg (by omega), Int.toNat_natCast, List.getD_eq_getElem?_getD, hA]
  rfl
theorem derivs_get (A : List Tm) {n j : Nat} (hj : j < n) : (derivs A n)[j]? = some (sortT (drvT j A)) := by unfold derivs; simp [hj]
set_option maxRecDepth 100000 in
set_option maxHeartbeats 12800000 in
theorem SymbolRuns_main (a : Option Addr) (c : Nat) (l : List OpD) (ra : Option Addr) (rn rc : Nat) (r : List UInt64) (hrn : rn = r.length) (w : World) (h : At w a l) (hr : At w ra r) (hl : l.length ≤ 1000000) (hs : small15 (rn : Int) l = true) (R : List (List Tm)) (hR : polysS (rn : Int) l = (0, R)) :
    Calls Tryz.prog 7 #[.agg #[.int .i64 (rn : Int), .slice a l.length c], .slice ra rn rc] w fun e w' => e = .returned (.bool true) ∧ Below w.heap.size w w' := by
  have hb0 := below_box w (.cells #[.int .i64 (rn : Int), .slice a l.length c] 24)
  have hX := Blk.new w 24 #[.int .i64 (rn : Int), .slice a l.length c]
  obtain ⟨p0, p1, p2, p3⟩ := hX.c2
  have h1 := h.belowN hb0
  have hr1 := hr.belowN hb0
  have HS := hide hs
  have HR := hide hR
  have HRN := hide hrn
  have HALL := hide (polysS_all hR)
  have hr64 := polysS_64 hR
  have hRl := (polysS_len hR).1 rfl
  rw [Int.toNat_natCast] at hRl
  obtain ⟨f1, f2, f3, f4⟩ := runs_facts (r := r) (by rw [hrn]) hR
  rw [← hrn] at f1 f2
  obtain ⟨X, hXX⟩ : ∃ X, uptoS (rn : Int) l r (-1) = X := ⟨_, rfl⟩
  obtain ⟨M, hMM⟩ : ∃ M, matA (rn : Int) l r = M := ⟨_, rfl⟩
  have hXl : X.length = rn := by rw [← hXX, f3, List.length_map, hRl]
  have hMl : M.length = rn := by rw [← hMM, f4, List.length_map, hRl]
  have HXX := hide hXX
  have HMM := hide hMM
  have HF1 := hide f1
  have HF2 := hide f2
  have HXK := hide (fun (k : Nat) (A : List Tm) (hA : R[k]? = some A) => (by rw [← hXX, f3, List.getElem?_map, hA]; rfl : X[k]? = some (evalT r A)))
  have HMK := hide (fun (k : Nat) (A : List Tm) (hA : R[k]? = some A) => (by rw [← hMM, f4, List.getElem?_map, hA, hrn]; rfl : M[k]? = some ((List.range rn).map fun j => dvT r j A)))
  have HRL := hide hRl
  have HXL := hide hXl
  have HML := hide hMl
  have d0 : ((rn : Int) != (rn : Int)) = false := by simp
  have d1 : ((rn : Int) == (rn : Int)) = true := by simp
  have hrn6 : rn ≤ 1000000 := by omega
  clear hs hR hrn h hr f1 f2 f3 f4 hXX hMM hXl hMl
  go_enter Tryz.func7, Tryz.ntmps7
  go_wp2_with (first
    | (go_at_call 10; go_must ((with_reducible refine (Small15_calls (rn : Int) a c l _ h1 hl true HS.out).mono ?_); rintro e w1 ⟨rfl, hC1⟩; obtain ⟨q0, q1, q2, q3⟩ := (hX.belowN hC1).c2))
    | (go_at_call 12; go_must ((with_reducible refine (Polys_calls (rn : Int) a c l _ (h1.belowN hC1) hl 0 R HR.out).mono ?_); rintro e w2 ⟨a2, n2, c2, hs2, rfl, hn2, hown2, hP2, hb2⟩; have hC2 := hC1.trans (hb2.mono hC1.size); obtain ⟨q0, q1, q2, q3⟩ := (hX.belowN hC2).c2; obtain rfl : n2 = rn := hn2.trans HRL.out; clear hn2))
    | (go_at_call 32; go_must ((with_reducible refine (RunN (n2 : Int) a c l.length l ra rc n2 r w2 X 0 rfl HRN.out HXX.out (by rw [← HRN.out]; exact HF1.out) (h1.belowN hC2) hl (hr1.belowN hC2) hrn6).mono ?_); rintro e w3 ⟨a3, c3, rfl, hown3, hb3⟩; rw [HXL.out]; have hC3 := hC2.trans (hb3.mono hC2.size); obtain ⟨q0, q1, q2, q3⟩ := (hX.belowN hC3).c2))
    | (go_at_call 33; go_must ((with_reducible refine (JMatrix_calls (n2 : Int) a c l.length l rfl ra n2 rc r HRN.out M 0 HMM.out HF2.out w3 (h1.belowN hC3) hl (hr1.belowN hC3) hrn6).mono ?_); rintro e w4 ⟨a4, c4, rfl, hM4, hb4⟩; rw [HML.out]; have hC4 := hC3.trans (hb4.mono hC3.size); obtain ⟨q0, q1, q2, q3⟩ := (hX.belowN hC4).c2)))
  have hb24 := hb3.trans (hb4.mono hb3.size)
  have hat2 := hown2.at_.belowN hb24
  have hP24 := hP2.belowN hb24
  have hat3 := hown3.at_.belowN hb4
  have hz4 := hC4.size
  go_loopw [11] (fun iv wr => ∃ k : Nat, iv = .int .i64 k ∧ k ≤ n2 ∧ Below w4.heap.size w4 wr) (fun iv _ => n2 - (intOf iv).toNat)
  case atStart => exact ⟨0, rfl, by omega, Below.refl _ _⟩
  case round =>
    obtain ⟨k, rfl, hk, hb5⟩ := hrel
    have hz5 := hb5.size
    have hC5 := hC4.trans (hb5.mono hz4)
    by_cases hlt : k < n2
    · obtain ⟨A, hA⟩ : ∃ A, R[k]? = some A := ⟨R[k]'(by rw [HRL.out]; exact hlt), List.getElem?_eq_getElem _⟩
      have hcA := HALL.out A (List.mem_of_getElem? hA)
      obtain ⟨l1, l2⟩ := checkP_len hcA
      obtain ⟨b1, off1, x, rfl, hx, x0, x1⟩ := (hat2.belowN hb5).getPo (Below.refl _ _) (k := k) (by rw [hP24.1, HRL.out]; exact hlt)
      obtain ⟨hv, hTx⟩ := hP24.2 k x A hx.out hA
      rw [hv] at x0
      have hXk := HXK.out k A hA
      have hMk := HMK.out k A hA
      obtain ⟨v, hvv⟩ : ∃ v, evalT r A = v := ⟨_, rfl⟩
      rw [hvv] at hXk
      have HEV := hide (fun (W : World) (hW : Below w4.heap.size w4 W) => Eval_calls (n2 : Int) x.a x.n x.c A hTx.len ra n2 rc r HRN.out W (hTx.at_.at_.belowN hW) ((hr1.belowN hC4).belowN hW) (by rw [hTx.len]; exact l1) l2 v (by unfold evalV; rw [if_pos ⟨hcA, by rw [← HRN.out]⟩]; exact hvv) 0 (by unfold evalE; rw [if_pos ⟨hcA, rfl⟩]))
      have hg := grad_get HR.out hA
      rw [HRL.out] at hg
      have HGA := hide (gradS_all hg).1
      have HGR := hide hg
      have HA := hide hA
      have HXk := hide hXk
      have HMk := hide hMk
      have HCA := hide hcA
      have dv0 : ((v.toNat : Int) != (v.toNat : Int)) = false := by simp
      clear hA hx hv hTx hg hXk hMk hvv hcA l1 l2
      obtain ⟨wo, rfl⟩ : ∃ wo : World, wo = wr := ⟨_, rfl⟩
      obtain ⟨q0, q1, q2, q3⟩ := (hX.belowN hC5).c2
      go_wp2_with (first
        | (go_at_call 34; go_must ((with_reducible refine (HEV.out _ hb5).mono ?_); rintro e w6 ⟨rfl, hb6⟩; have hC6 := hC5.trans (hb6.mono hC5.size); obtain ⟨q0, q1, q2, q3⟩ := (hX.belowN hC6).c2))
        | (go_at_call 14; go_must ((with_reducible refine (Gradient_calls (n2 : Int) a c l _ (h1.belowN hC6) hl (k : Int) 0 _ HGR.out).mono ?_); rintro e w7 ⟨a7, n7, c7, hs7, rfl, hn7, hown7, hP7, hb7⟩; have hC7 := hC6.trans (hb7.mono hC6.size); rw [derivs_len] at hn7; obtain rfl : n7 = n2 := hn7; have hb47 := (hb5.trans (hb6.mono hz5)).trans (hb7.mono (Nat.le_trans hz5 hb6.size)); obtain ⟨y1, yo1, yv, rfl, hy, yc⟩ := (hat3.belowN hb47).getU (Below.refl _ _) (k := k) (by rw [HXL.out]; exact hlt); obtain rfl : yv = v := Option.some.inj (hy.out.symm.trans HXk.out); obtain ⟨m1, mo1, mh, mc, mrow, rfl, hm, mc0, mcl, mat⟩ := (hM4.belowN hb47).get (Below.refl _ _) (k := k) (by rw [HML.out]; exact hlt); have hmr := Option.some.inj (hm.out.symm.trans HMk.out); have hmrl : mrow.length = n7 := (by rw [hmr]; simp); rw [hmrl] at mc0; clear hy hm; have HMR := hide hmr; have HMRL := hide hmrl; clear hmr hmrl)))
      have hz7 := hb47.size
      have hat7 := hown7.at_
      go_loopw [16] (fun iv wr => ∃ j : Nat, iv = .int .i64 j ∧ j ≤ n7 ∧ Below w7.heap.size w7 wr) (fun iv _ => n7 - (intOf iv).toNat)
      case atStart => exact ⟨0, rfl, by omega, Below.refl _ _⟩
      case round =>
        obtain ⟨j, rfl, hj, hb8⟩ := hrel
        have hz8 := hb8.size
        have hb48 := hb47.trans (hb8.mono hz7)
        have mc8 := cell_later hb8 mc0
        by_cases hlt8 : j < n7
        · have hDj := derivs_get A hlt8
          have hcD := HGA.out _ (List.mem_of_getElem? hDj)
          obtain ⟨l1, l2⟩ := checkP_len hcD
          obtain ⟨b2, off2, y, rfl, hy, z0, z1⟩ := (hat7.belowN hb8).getPo (Below.refl _ _) (k := j) (by rw [hP7.1, derivs_len]; exact hlt8)
          obtain ⟨hv, hTy⟩ := hP7.2 j y _ hy.out hDj
          rw [hv] at z0
          obtain ⟨u1, uo1, uv, rfl, hu, uc⟩ := (mat.belowN hb8).getU (Below.refl _ _) (k := j) (by rw [HMRL.out]; exact hlt8)
          have huv : uv = dvT r j A := by
            have h9 := hu.out
            rw [HMR.out] at h9
            simpa [hlt8] using h9.symm
          have HEV2 := hide (Eval_calls (n7 : Int) y.a y.n y.c _ hTy.len ra n7 rc r HRN.out wr (hTy.at_.at_.belowN hb8) ((hr1.belowN hC7).belowN hb8) (by rw [hTy.len]; exact l1) l2 uv (by unfold evalV; rw [if_pos ⟨hcD, by rw [← HRN.out]⟩, huv]; exact sort_dv r HCA.out (by omega)) 0 (by unfold evalE; rw [if_pos ⟨hcD, rfl⟩]))
          have du0 : ((uv.toNat : Int) != (uv.toNat : Int)) = false := by simp
          clear hDj hcD l1 l2 hy hv hTy hu huv
          obtain ⟨w8, rfl⟩ : ∃ w8 : World, w8 = wr := ⟨_, rfl⟩
          go_wp2_with (go_at_call 34; go_must ((with_reducible refine (HEV2.out).mono ?_); rintro e w9 ⟨rfl, hb9⟩; have mc9 := cell_later hb9 mc8; have uc9 := cell_later hb9 uc))
          go_roundw
          case rel => exact ⟨j + 1, by go_num, by omega, hb8.trans (hb9.mono hz8)⟩
          case measure => simp [intOf] <;> omega
        · have hjn : j = n7 := by omega
          subst hjn
          go_wp2
          go_roundw
          case rel => exact ⟨k + 1, by go_num, by omega, hb48⟩
          case measure => simp [intOf] <;> omega
    · have hkn : k = n2 := by omega
      subst hkn
      go_wp2_with (go_at_call 11; go_must ((with_reducible refine (goes15_calls _).mono ?_); rintro e w9 ⟨rfl, hb9⟩))
      go_ret
      exact ⟨rfl, hb0.trans ((hC5.trans (hb9.mono hC5.size)).mono hb0.size)⟩
set_option maxRecDepth 100000 in
set_option maxHeartbeats 6400000 in
theorem SymbolRuns_calls (regs : Int) (a : Option Addr) (c : Nat) (l : List OpD) (ra : Option Addr) (rc : Nat) (r : List UInt64) (w : World) (h : At w a l) (hr : At w ra r) (hl : l.length ≤ 1000000) :
    Calls Tryz.prog 7 #[.agg #[.int .i64 regs, .slice a l.length c], .slice ra r.length rc] w fun e w' => e = .returned (.bool true) ∧ Below w.heap.size w w' := by
  obtain ⟨rn, hrn⟩ : ∃ rn, rn = r.length := ⟨_, rfl⟩
  rw [← hrn]
  have hb0 := below_box w (.cells #[.int .i64 regs, .slice a l.length c] 24)
  have hX := Blk.new w 24 #[.int .i64 regs, .slice a l.length c]
  obtain ⟨p0, p1, p2, p3⟩ := hX.c2
  have h1 := h.belowN hb0
  cases hs : small15 regs l with
  | false =>
    have HS := hide hs
    clear hs hrn
    go_enter Tryz.func7, Tryz.ntmps7
    go_wp2_with (first
      | (go_at_call 10; go_must ((with_reducible refine (Small15_calls regs a c l _ h1 hl _ HS.out).mono ?_); rintro e w1 ⟨rfl, hC1⟩; obtain ⟨q0, q1, q2, q3⟩ := (hX.belowN hC1).c2))
      | (go_at_call 11; go_must ((with_reducible refine (goes15_calls _).mono ?_); rintro e w8 ⟨rfl, hb8⟩)))
    go_ret
    exact ⟨rfl, hb0.trans ((hC1.trans (hb8.mono hC1.size)).mono hb0.size)⟩
  | true =>
    have HS := hide hs
    by_cases hd : (rn : Int) = regs
    · subst hd
      obtain ⟨⟨E, R⟩, hE⟩ : ∃ x, polysS (rn : Int) l = x := ⟨_, rfl⟩
      by_cases hE0 : E = 0
      · subst hE0
        exact SymbolRuns_main a c l ra rn rc r hrn w h hr hl hs R hE
      · have HE := hide hE
        have hR0 := (polysS_len hE).2 hE0
        subst hR0
        have e1 : (E == 0) = false := by simpa using hE0
        have e2 : (E != 0) = true := by simpa using hE0
        have d1 : ((rn : Int) != (rn : Int)) = false := by simp
        clear hs hE hE0 hrn
        go_enter Tryz.func7, Tryz.ntmps7
        go_wp2_with (first
          | (go_at_call 10; go_must ((with_reducible refine (Small15_calls (rn : Int) a c l _ h1 hl true HS.out).mono ?_); rintro e w1 ⟨rfl, hC1⟩; obtain ⟨q0, q1, q2, q3⟩ := (hX.belowN hC1).c2))
          | (go_at_call 12; go_must ((with_reducible refine (Polys_calls (rn : Int) a c l _ (h1.belowN hC1) hl E [] HE.out).mono ?_); rintro e w2 ⟨a2, n2, c2, hs2, rfl, hn2, hown2, hP2, hb2⟩; have hC2 := hC1.trans (hb2.mono hC1.size); obtain ⟨q0, q1, q2, q3⟩ := (hX.belowN hC2).c2; obtain rfl : n2 = 0 := hn2))
          | (go_at_call 11; go_must ((with_reducible refine (goes15_calls _).mono ?_); rintro e w8 ⟨rfl, hb8⟩)))
        go_ret
        exact ⟨rfl, hb0.trans ((hC2.trans (hb8.mono hC2.size)).mono hb0.size)⟩
    · have d1 : ((rn : Int) != regs) = true := by simpa using hd
      have d2 : ((rn : Int) == regs) = false := by simpa using hd
      clear hs hd hrn
      go_enter Tryz.func7, Tryz.ntmps7
      go_wp2_with (first
        | (go_at_call 10; go_must ((with_reducible refine (Small15_calls regs a c l _ h1 hl _ HS.out).mono ?_); rintro e w1 ⟨rfl, hC1⟩; obtain ⟨q0, q1, q2, q3⟩ := (hX.belowN hC1).c2))
        | (go_at_call 11; go_must ((with_reducible refine (goes15_calls _).mono ?_); rintro e w8 ⟨rfl, hb8⟩)))
      go_ret
      exact ⟨rfl, hb0.trans ((hC1.trans (hb8.mono hC1.size)).mono hb0.size)⟩
end Go.Proofs.YtcamcnahkdiefaaGreat
