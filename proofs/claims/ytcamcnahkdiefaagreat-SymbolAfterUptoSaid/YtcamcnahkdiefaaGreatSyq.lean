/- Chapter 15: the law SymbolAfter, walked. -/
import Derived.Test.YtcamcnahkdiefaaGreatSyp
namespace Go.Proofs.YtcamcnahkdiefaaGreat
set_option linter.unusedVariables false
set_option linter.unusedSimpArgs false
open Go.RowKit
theorem afterS_all {regs : Int} {l : List OpD} {hs : List PoH} {r : List (List Tm)} (hlen : hs.length = r.length) {E : Int} {R : List (List Tm)} (h : afterS regs l (hs.map (·.v)) r = (E, R)) : AllP ((hs.map (·.v)).headD 0) R ∧ R.length ≤ r.length := by
  unfold afterS at h
  split at h
  · simp only [Prod.mk.injEq] at h
    rw [← h.2]; exact ⟨fun L hL => (by cases hL), by simp⟩
  rename_i hc
  split at h
  · simp only [Prod.mk.injEq] at h
    rw [← h.2]; exact ⟨fun L hL => (by cases hL), by simp⟩
  rename_i hd
  split at h
  · simp only [Prod.mk.injEq] at h
    rw [← h.2]; exact ⟨fun L hL => (by cases hL), by simp⟩
  rename_i hok
  have hok' : okStart ((hs.map (·.v)).headD 0) (hs.map (·.v)) r = true := by simpa using hok
  have hAll := okStart_all hok'
  have hA : AllP ((hs.map (·.v)).headD 0) r := fun L hL => by
    obtain ⟨i, hi⟩ := List.getElem?_of_mem hL
    have hlt' := (List.getElem?_eq_some_iff.1 hi).1
    exact (hAll i (hs[i]'(by rw [hlen]; exact hlt')) L (List.getElem?_eq_getElem _) hi).2
  obtain ⟨f, rfl, g⟩ := good_of_check (Decidable.not_not.1 hc)
  rw [unrS_good g] at h
  have hr := runS_len _ _ _ _ h
  refine ⟨runS_all _ _ _ _ (fun x hx => ?_) hA h, ?_⟩
  · have := (g.inR x hx).2.1
    have : (r.length : Int) = regs := Decidable.not_not.1 hd
    omega
  · by_cases hE : E = 0
    · rw [hr.1 hE]; exact Nat.le_refl _
    · rw [hr.2 hE]; exact Nat.zero_le _
theorem few_len {L : List Tm} {most : Int} (h : fewB L most = true) : (L.length : Int) ≤ most ∧ ∀ t ∈ L, t.2.length ≤ 1000000 := by
  obtain ⟨g1, g2⟩ := fewB_true h
  exact ⟨g1, fun t ht => by have := g2 t ht; omega⟩
theorem PsV.later {w W : World} {hs : List PoH} {r : List (List Tm)} (h : PsV (fun q => q < w.heap.size) w hs r) (hW : Below w.heap.size w W) : PsV (fun q => q < W.heap.size) W hs r :=
  ⟨h.1, fun i y L e1 e2 => ⟨((h.belowN hW).2 i y L e1 e2).1.imp (fun q hq => Nat.lt_of_lt_of_le hq hW.size), (h.2 i y L e1 e2).2⟩⟩
set_option maxRecDepth 100000 in
set_option maxHeartbeats 6400000 in
theorem SymbolAfter_calls (regs : Int) (a : Option Addr) (c : Nat) (l : List OpD) (sa : Option Addr) (sn sc : Nat) (hs : List PoH) (r : List (List Tm)) (hsn : sn = hs.length) (w : World) (h : At w a l) (hl : l.length ≤ 1000000) (hst : At w sa hs) (hPR : hs.length = r.length ∧ ∀ (i : Nat) (y : PoH) (L : List Tm), hs[i]? = some y → r[i]? = some L → TOut (fun _ => True) w y.a y.n y.c L) :
    Calls Tryz.prog 4 #[.agg #[.int .i64 regs, .slice a l.length c], .slice sa sn sc] w fun e w' => e = .returned (.bool true) ∧ Below w.heap.size w w' := by
  have hb0 := below_box w (.cells #[.int .i64 regs, .slice a l.length c] 24)
  have hX := Blk.new w 24 #[.int .i64 regs, .slice a l.length c]
  obtain ⟨p0, p1, p2, p3⟩ := hX.c2
  have h1 := h.belowN hb0
  have hs1 := hst.belowN hb0
  obtain ⟨U, hU⟩ : ∃ U, unrS regs l = U := ⟨_, rfl⟩
  obtain ⟨E, hE⟩ : ∃ E, checkS regs l = E := ⟨_, rfl⟩
  have HU := hide (UnrollR regs a c l _ U E hU hE h1 hl)
  obtain ⟨⟨G, R⟩, hA⟩ : ∃ x, afterS regs l (hs.map (·.v)) r = x := ⟨_, rfl⟩
  obtain ⟨hR1, hR2⟩ := afterS_all hPR.1 hA
  rw [← hPR.1, ← hsn] at hR2
  have HA := hide hA
  have HR := hide hR1
  have HSN := hide hsn
  have HPR := hide hPR
  obtain ⟨SB, hSB⟩ : ∃ B, small15 regs l = B := ⟨_, rfl⟩
  have HS := hide hSB
  obtain ⟨un, hun⟩ : ∃ n, U.length = n := ⟨_, rfl⟩
  rw [hun] at HU
  clear hU hE hA hR1 hsn hPR hst h hSB hun
  cases SB with
  | false =>
          go_enter Tryz.func4, Tryz.ntmps4
          go_wp2_with (first
            | (go_at_call 17; go_must ((with_reducible refine (HU.out).mono ?_); rintro e w1 ⟨a1, c1, rfl, hown1, hC1⟩; obtain ⟨q0, q1, q2, q3⟩ := (hX.belowN hC1).c2))
            | (go_at_call 10; go_must ((with_reducible refine (Small15_calls regs a c l _ (h1.belowN hC1) hl _ HS.out).mono ?_); rintro e w2 ⟨rfl, hb2⟩; have hC2 := hC1.trans (hb2.mono hC1.size); obtain ⟨q0, q1, q2, q3⟩ := (hX.belowN hC2).c2))
            | (go_at_call 11; go_must ((with_reducible refine (goes15_calls _).mono ?_); rintro e w9 ⟨rfl, hb9⟩)))
          go_ret
          exact ⟨rfl, hb0.trans ((hC2.trans (hb9.mono hC2.size)).mono hb0.size)⟩
  | true =>
    by_cases hB : E = 0 ∧ 5 < un
    ·     obtain ⟨rfl, h5⟩ := hB
          have d1 : (5 : Int) < (un : Int) := by omega
          have d2 : decide (5 < un) = true := decide_eq_true h5
          have d3 : decide ((un : Int) > 5) = true := decide_eq_true d1
          go_enter Tryz.func4, Tryz.ntmps4
          go_wp2_with (first
            | (go_at_call 17; go_must ((with_reducible refine (HU.out).mono ?_); rintro e w1 ⟨a1, c1, rfl, hown1, hC1⟩; obtain ⟨q0, q1, q2, q3⟩ := (hX.belowN hC1).c2))
            | (go_at_call 10; go_must ((with_reducible refine (Small15_calls regs a c l _ (h1.belowN hC1) hl _ HS.out).mono ?_); rintro e w2 ⟨rfl, hb2⟩; have hC2 := hC1.trans (hb2.mono hC1.size); obtain ⟨q0, q1, q2, q3⟩ := (hX.belowN hC2).c2))
            | (go_at_call 11; go_must ((with_reducible refine (goes15_calls _).mono ?_); rintro e w9 ⟨rfl, hb9⟩)))
          go_ret
          exact ⟨rfl, hb0.trans ((hC2.trans (hb9.mono hC2.size)).mono hb0.size)⟩
    · by_cases h8 : sn ≤ 8
      · have d8 : (sn : Int) ≤ 8 := by omega
        by_cases hE0 : E = 0
        · subst hE0
          have d5 : (un : Int) ≤ 5 := by omega
          clear hB
          go_enter Tryz.func4, Tryz.ntmps4
          go_wp2_with (first
            | (go_at_call 17; go_must ((with_reducible refine (HU.out).mono ?_); rintro e w1 ⟨a1, c1, rfl, hown1, hC1⟩; obtain ⟨q0, q1, q2, q3⟩ := (hX.belowN hC1).c2))
            | (go_at_call 10; go_must ((with_reducible refine (Small15_calls regs a c l _ (h1.belowN hC1) hl _ HS.out).mono ?_); rintro e w2 ⟨rfl, hb2⟩; have hC2 := hC1.trans (hb2.mono hC1.size); obtain ⟨q0, q1, q2, q3⟩ := (hX.belowN hC2).c2)))
          have hz2 := hC2.size
          go_loopw [7] (fun iv wr => ∃ k : Nat, iv = .int .i64 k ∧ k ≤ sn ∧ Below w2.heap.size w2 wr ∧ ∀ (i : Nat) (L : List Tm), i < k → r[i]? = some L → fewB L 3 = true) (fun iv _ => sn - (intOf iv).toNat)
          case atStart => exact ⟨0, rfl, by omega, Below.refl _ _, fun i L h0 => absurd h0 (Nat.not_lt_zero _)⟩
          case round =>
            obtain ⟨k, rfl, hk, hb3, hfew⟩ := hrel
            have hz3 := hb3.size
            have hC3 := hC2.trans (hb3.mono hz2)
            by_cases hlt : k < sn
            · obtain ⟨b1, off1, y, rfl, hy, y0, y1⟩ := (hs1.belowN hC3).getPo (Below.refl _ _) (k := k) (by rw [← HSN.out]; exact hlt)
              obtain ⟨L, hL⟩ : ∃ L, r[k]? = some L := ⟨r[k]'(by have := HPR.out.1; have := HSN.out; omega), List.getElem?_eq_getElem _⟩
              have hTy := HPR.out.2 k y L hy.out hL
              obtain ⟨B, hB⟩ : ∃ B, fewB L 3 = B := ⟨_, rfl⟩
              have HFW := hide (Few_calls (fun _ => True) y.v 3 (by decide) y.a y.n y.c L wr (hTy.belowN (hb0.trans (hC3.mono hb0.size))) B hB)
              have HB := hide hB
              have HL := hide hL
              have HFEW := hide hfew
              clear hTy hB hL hy hfew
              cases B with
              | false =>
                go_wp2_with (first
                  | (go_at_call 18; go_must ((with_reducible refine (HFW.out).mono ?_); rintro e w4 ⟨rfl, hb4⟩; have hC4 := hC3.trans (hb4.mono hC3.size)))
                  | (go_at_call 11; go_must ((with_reducible refine (goes15_calls _).mono ?_); rintro e w9 ⟨rfl, hb9⟩)))
                go_ret
                exact ⟨rfl, hb0.trans ((hC4.trans (hb9.mono hC4.size)).mono hb0.size)⟩
              | true =>
                go_wp2_with (go_at_call 18; go_must ((with_reducible refine (HFW.out).mono ?_); rintro e w4 ⟨rfl, hb4⟩))
                go_roundw
                case rel =>
                  refine ⟨k + 1, by go_num, by omega, hb3.trans (hb4.mono hz3), fun i M hi hM => ?_⟩
                  by_cases e : i = k
                  · subst e
                    rw [HL.out] at hM
                    obtain rfl := Option.some.inj hM
                    exact HB.out
                  · exact HFEW.out i M (by omega) hM
                case measure => simp [intOf] <;> omega
            · have hkn : k = sn := by omega
              subst hkn
              have hPV : PsV (fun q => q < w.heap.size) w hs r := ⟨HPR.out.1, fun i y L e1 e2 => by
                obtain ⟨g1, g2⟩ := few_len (hfew i L (by have := (List.getElem?_eq_some_iff.1 e1).1; have := HSN.out; omega) e2)
                have hT := HPR.out.2 i y L e1 e2
                exact ⟨hT.bounded.imp fun q hq => hq.2, by rw [hT.len]; omega, g2⟩⟩
              have HPV := hide (fun (W : World) (hW : Below w.heap.size w W) => hPV.later hW)
              clear hPV hfew
              obtain ⟨wo, rfl⟩ : ∃ wo : World, wo = wr := ⟨_, rfl⟩
              have hD3 := hb0.trans (hC3.mono hb0.size)
              obtain ⟨q0, q1, q2, q3⟩ := (hX.belowN hC3).c2
              go_wp2_with (first
                | (go_at_call 19; go_must ((with_reducible refine (After_calls regs a c l sa k sc hs r HSN.out _ (h1.belowN hC3) hl (hs1.belowN hC3) (HPV.out _ hD3) G R HA.out).mono ?_); rintro e w4 ⟨a4, n4, c4, hs4, rfl, hn4, hown4, hP4, hb4⟩; have hC4 := hC3.trans (hb4.mono hC3.size); have hD4 := hD3.trans (hb4.mono hD3.size); obtain ⟨q0, q1, q2, q3⟩ := (hX.belowN hC4).c2; have HN4 := hide hn4; clear hn4))
                | (go_at_call 20; go_must ((with_reducible refine (After15_calls regs a c l sa k sc hs r HSN.out _ (h1.belowN hC4) hl (hs1.belowN hC4) (HPV.out _ hD4) G R HA.out).mono ?_); rintro e w5 ⟨a5, n5, c5, hs5, rfl, hn5, hown5, hP5, hb5⟩; have hC5 := hC4.trans (hb5.mono hC4.size); obtain rfl : n5 = n4 := hn5.trans HN4.out.symm; clear hn5))
                | (go_at_call 16; go_must ((with_reducible refine (Same15_calls _ _ _ a4 a5 n5 c4 c5 hs4 hs5 R HN4.out HR.out (by rw [HN4.out]; omega) w5 ((hown4.belowN hb5).at_) hown5.at_ (hP4.belowN hb5) hP5).mono ?_); rintro e w8 ⟨rfl, hb8⟩; have hC8 := hC5.trans (hb8.mono hC5.size)))
                | (go_at_call 11; go_must ((with_reducible refine (goes15_calls _).mono ?_); rintro e w9 ⟨rfl, hb9⟩)))
              go_ret
              exact ⟨rfl, hb0.trans ((hC8.trans (hb9.mono hC8.size)).mono hb0.size)⟩
        · have e1 : (E == 0) = false := by simpa using hE0
          clear hB hE0
          go_enter Tryz.func4, Tryz.ntmps4
          go_wp2_with (first
            | (go_at_call 17; go_must ((with_reducible refine (HU.out).mono ?_); rintro e w1 ⟨a1, c1, rfl, hown1, hC1⟩; obtain ⟨q0, q1, q2, q3⟩ := (hX.belowN hC1).c2))
            | (go_at_call 10; go_must ((with_reducible refine (Small15_calls regs a c l _ (h1.belowN hC1) hl _ HS.out).mono ?_); rintro e w2 ⟨rfl, hb2⟩; have hC2 := hC1.trans (hb2.mono hC1.size); obtain ⟨q0, q1, q2, q3⟩ := (hX.belowN hC2).c2)))
          have hz2 := hC2.size
          go_loopw [7] (fun iv wr => ∃ k : Nat, iv = .int .i64 k ∧ k ≤ sn ∧ Below w2.heap.size w2 wr ∧ ∀ (i : Nat) (L : List Tm), i < k → r[i]? = some L → fewB L 3 = true) (fun iv _ => sn - (intOf iv).toNat)
          case atStart => exact ⟨0, rfl, by omega, Below.refl _ _, fun i L h0 => absurd h0 (Nat.not_lt_zero _)⟩
          case round =>
            obtain ⟨k, rfl, hk, hb3, hfew⟩ := hrel
            have hz3 := hb3.size
            have hC3 := hC2.trans (hb3.mono hz2)
            by_cases hlt : k < sn
            · obtain ⟨b1, off1, y, rfl, hy, y0, y1⟩ := (hs1.belowN hC3).getPo (Below.refl _ _) (k := k) (by rw [← HSN.out]; exact hlt)
              obtain ⟨L, hL⟩ : ∃ L, r[k]? = some L := ⟨r[k]'(by have := HPR.out.1; have := HSN.out; omega), List.getElem?_eq_getElem _⟩
              have hTy := HPR.out.2 k y L hy.out hL
              obtain ⟨B, hB⟩ : ∃ B, fewB L 3 = B := ⟨_, rfl⟩
              have HFW := hide (Few_calls (fun _ => True) y.v 3 (by decide) y.a y.n y.c L wr (hTy.belowN (hb0.trans (hC3.mono hb0.size))) B hB)
              have HB := hide hB
              have HL := hide hL
              have HFEW := hide hfew
              clear hTy hB hL hy hfew
              cases B with
              | false =>
                go_wp2_with (first
                  | (go_at_call 18; go_must ((with_reducible refine (HFW.out).mono ?_); rintro e w4 ⟨rfl, hb4⟩; have hC4 := hC3.trans (hb4.mono hC3.size)))
                  | (go_at_call 11; go_must ((with_reducible refine (goes15_calls _).mono ?_); rintro e w9 ⟨rfl, hb9⟩)))
                go_ret
                exact ⟨rfl, hb0.trans ((hC4.trans (hb9.mono hC4.size)).mono hb0.size)⟩
              | true =>
                go_wp2_with (go_at_call 18; go_must ((with_reducible refine (HFW.out).mono ?_); rintro e w4 ⟨rfl, hb4⟩))
                go_roundw
                case rel =>
                  refine ⟨k + 1, by go_num, by omega, hb3.trans (hb4.mono hz3), fun i M hi hM => ?_⟩
                  by_cases e : i = k
                  · subst e
                    rw [HL.out] at hM
                    obtain rfl := Option.some.inj hM
                    exact HB.out
                  · exact HFEW.out i M (by omega) hM
                case measure => simp [intOf] <;> omega
            · have hkn : k = sn := by omega
              subst hkn
              have hPV : PsV (fun q => q < w.heap.size) w hs r := ⟨HPR.out.1, fun i y L e1 e2 => by
                obtain ⟨g1, g2⟩ := few_len (hfew i L (by have := (List.getElem?_eq_some_iff.1 e1).1; have := HSN.out; omega) e2)
                have hT := HPR.out.2 i y L e1 e2
                exact ⟨hT.bounded.imp fun q hq => hq.2, by rw [hT.len]; omega, g2⟩⟩
              have HPV := hide (fun (W : World) (hW : Below w.heap.size w W) => hPV.later hW)
              clear hPV hfew
              obtain ⟨wo, rfl⟩ : ∃ wo : World, wo = wr := ⟨_, rfl⟩
              have hD3 := hb0.trans (hC3.mono hb0.size)
              obtain ⟨q0, q1, q2, q3⟩ := (hX.belowN hC3).c2
              go_wp2_with (first
                | (go_at_call 19; go_must ((with_reducible refine (After_calls regs a c l sa k sc hs r HSN.out _ (h1.belowN hC3) hl (hs1.belowN hC3) (HPV.out _ hD3) G R HA.out).mono ?_); rintro e w4 ⟨a4, n4, c4, hs4, rfl, hn4, hown4, hP4, hb4⟩; have hC4 := hC3.trans (hb4.mono hC3.size); have hD4 := hD3.trans (hb4.mono hD3.size); obtain ⟨q0, q1, q2, q3⟩ := (hX.belowN hC4).c2; have HN4 := hide hn4; clear hn4))
                | (go_at_call 20; go_must ((with_reducible refine (After15_calls regs a c l sa k sc hs r HSN.out _ (h1.belowN hC4) hl (hs1.belowN hC4) (HPV.out _ hD4) G R HA.out).mono ?_); rintro e w5 ⟨a5, n5, c5, hs5, rfl, hn5, hown5, hP5, hb5⟩; have hC5 := hC4.trans (hb5.mono hC4.size); obtain rfl : n5 = n4 := hn5.trans HN4.out.symm; clear hn5))
                | (go_at_call 16; go_must ((with_reducible refine (Same15_calls _ _ _ a4 a5 n5 c4 c5 hs4 hs5 R HN4.out HR.out (by rw [HN4.out]; omega) w5 ((hown4.belowN hb5).at_) hown5.at_ (hP4.belowN hb5) hP5).mono ?_); rintro e w8 ⟨rfl, hb8⟩; have hC8 := hC5.trans (hb8.mono hC5.size)))
                | (go_at_call 11; go_must ((with_reducible refine (goes15_calls _).mono ?_); rintro e w9 ⟨rfl, hb9⟩)))
              go_ret
              exact ⟨rfl, hb0.trans ((hC8.trans (hb9.mono hC8.size)).mono hb0.size)⟩
      · have d8 : (8 : Int) < (sn : Int) := by omega
        by_cases hE0 : E = 0
        · subst hE0
          have d5 : (un : Int) ≤ 5 := by omega
          clear hB
          go_enter Tryz.func4, Tryz.ntmps4
          go_wp2_with (first
            | (go_at_call 17; go_must ((with_reducible refine (HU.out).mono ?_); rintro e w1 ⟨a1, c1, rfl, hown1, hC1⟩; obtain ⟨q0, q1, q2, q3⟩ := (hX.belowN hC1).c2))
            | (go_at_call 10; go_must ((with_reducible refine (Small15_calls regs a c l _ (h1.belowN hC1) hl _ HS.out).mono ?_); rintro e w2 ⟨rfl, hb2⟩; have hC2 := hC1.trans (hb2.mono hC1.size); obtain ⟨q0, q1, q2, q3⟩ := (hX.belowN hC2).c2))
            | (go_at_call 11; go_must ((with_reducible refine (goes15_calls _).mono ?_); rintro e w9 ⟨rfl, hb9⟩)))
          go_ret
          exact ⟨rfl, hb0.trans ((hC2.trans (hb9.mono hC2.size)).mono hb0.size)⟩
        · have e1 : (E == 0) = false := by simpa using hE0
          clear hB hE0
          go_enter Tryz.func4, Tryz.ntmps4
          go_wp2_with (first
            | (go_at_call 17; go_must ((with_reducible refine (HU.out).mono ?_); rintro e w1 ⟨a1, c1, rfl, hown1, hC1⟩; obtain ⟨q0, q1, q2, q3⟩ := (hX.belowN hC1).c2))
            | (go_at_call 10; go_must ((with_reducible refine (Small15_calls regs a c l _ (h1.belowN hC1) hl _ HS.out).mono ?_); rintro e w2 ⟨rfl, hb2⟩; have hC2 := hC1.trans (hb2.mono hC1.size); obtain ⟨q0, q1, q2, q3⟩ := (hX.belowN hC2).c2))
            | (go_at_call 11; go_must ((with_reducible refine (goes15_calls _).mono ?_); rintro e w9 ⟨rfl, hb9⟩)))
          go_ret
          exact ⟨rfl, hb0.trans ((hC2.trans (hb9.mono hC2.size)).mono hb0.size)⟩
end Go.Proofs.YtcamcnahkdiefaaGreat
