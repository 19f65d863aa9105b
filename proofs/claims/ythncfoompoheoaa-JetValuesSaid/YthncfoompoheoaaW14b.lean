/- Chapter 14: JetValues. -/
import Derived.Deep.RegionHeld3
import Derived.Test.YthncfoompoheoaaJv
import Derived.Test.YthncfoompoheoaaRi
namespace Go.Proofs.Ythncfoompoheoaa
set_option linter.unusedVariables false
set_option linter.unusedSimpArgs false
open Go.RowKit
theorem values14_all (regs : Int) (l : List OpD) (r : List DuD) (y : UInt64) :
    dimsS regs l (valsD r).length = dualE regs l r.length ∧ dualE regs l (moreD y r).length = dualE regs l r.length ∧ uptoS regs l (valsD r) (-1) = valsD (dualR regs l r) ∧ dualR regs l (moreD y r) = moreD y (dualR regs l r) := by
  by_cases h : dualE regs l r.length = 0
  · obtain ⟨e1, e2, e3, e4⟩ := values14 (y := y) h
    exact ⟨e1.trans h.symm, e2.trans h.symm, e3.symm, e4⟩
  · obtain ⟨e1, e2, e3, e4, e5⟩ := values14_bad (y := y) h
    exact ⟨e1, e2, by rw [e3, e4]; rfl, by rw [e3, e5]; rfl⟩
set_option maxRecDepth 100000 in
set_option maxHeartbeats 6400000 in
theorem JetValues_calls (regs : Int) (a : Option Addr) (c : Nat) (l : List OpD) (ra : Option Addr) (rc : Nat) (r : List DuD) (y : UInt64) (w : World) (h : At w a l) (hr : At w ra r) :
    Calls Try.prog 12 #[.agg #[.int .i64 regs, .slice a l.length c], .slice ra r.length rc, .int .u64 (y.toNat : Int)] w fun e w' => e = .returned (.bool true) ∧ Below w.heap.size w w' := by
  have hb0 := below_new12 w (.cells #[.int .i64 regs, .slice a l.length c] 24)
  have hX := Blk.new w 24 #[.int .i64 regs, .slice a l.length c]
  have h1 := h.belowN hb0
  have hr1 := hr.belowN hb0
  obtain ⟨rn, hrn⟩ : ∃ rn, rn = r.length := ⟨_, rfl⟩
  have hVA := values14_all regs l r y
  rw [← hrn] at hVA ⊢
  have HRN := hide hrn
  clear hrn h hr
  by_cases hg : rn ≤ 100
  · cases hs : small13 regs l 100 with
    | false =>
      have HS := hide hs
      clear hs
      go_enter Try.func12, Try.ntmps12
      go_wp2_with (first
        | (go_at_call 28; go_must ((with_reducible refine (Small13_calls regs a c l _ false HS.out _ h1 (by omega)).mono ?_); rintro e w1 ⟨rfl, hC1⟩))
        | (go_at_call 29; go_must ((with_reducible refine (goes14_calls _).mono ?_); rintro e w8 ⟨rfl, hb8⟩)))
      go_ret
      exact ⟨rfl, hb0.trans ((hC1.trans (hb8.mono hC1.size)).mono hb0.size)⟩
    | true =>
      have hsl := small_le14 hs
      have HS := hide hs
      obtain ⟨j1, j2, j3, j4⟩ := hVA
      obtain ⟨A, hA⟩ : ∃ A, dualR regs l r = A := ⟨_, rfl⟩
      obtain ⟨E, hE⟩ : ∃ E, dualE regs l rn = E := ⟨_, rfl⟩
      have hAl := dualR_len regs l r
      rw [hA] at hAl j3 j4
      rw [hE] at j1 j2
      obtain ⟨X, hX'⟩ : ∃ X, valsD A = X := ⟨_, rfl⟩
      obtain ⟨C, hC'⟩ : ∃ C, moreD y A = C := ⟨_, rfl⟩
      have hXl : X.length = A.length := by rw [← hX']; simp [valsD]
      have hCl : C.length = A.length := by rw [← hC']; simp [moreD]
      rw [hX'] at j3
      rw [hC'] at j4
      have HA := hide hA
      have HE := hide hE
      have HJ1 := hide j1
      have HJ2 := hide j2
      have HJ3 := hide j3
      have HJ4 := hide j4
      have HXV := hide hX'.symm
      have HCM := hide hC'.symm
      have HVL := hide (show rn = (valsD r).length by rw [HRN.out]; simp [valsD])
      have HML := hide (show rn = (moreD y r).length by rw [HRN.out]; simp [moreD])
      have d1 : ((A.length : Int) != (X.length : Int)) = false := by simp; omega
      have d2 : ((A.length : Int) != (C.length : Int)) = false := by simp; omega
      have d3 : (E != E) = false := by simp
      have HXL := hide hXl
      have HCL := hide hCl
      clear hs hA hE j1 j2 j3 j4 hX' hC' hXl hCl
      go_enter Try.func12, Try.ntmps12
      go_wp2_with (go_at_call 28; go_must ((with_reducible refine (Small13_calls regs a c l _ true HS.out _ h1 (by omega)).mono ?_); rintro e w1 ⟨rfl, hC1⟩; obtain ⟨q0, q1, q2, q3⟩ := (hX.belowN hC1).c2))
      have hz1 := hC1.size
      go_loopw [7, 8, 9] (fun vv mv iv wr => ∃ (k : Nat) (ab am : Option Addr) (cb cm : Nat), iv = .int .i64 k ∧ k ≤ rn ∧ vv = .slice ab k cb ∧ mv = .slice am k cm ∧ Own wr w1.heap.size 68 ab cb (valsD (r.take k)) ∧ Own wr w1.heap.size 92 am cm (moreD y (r.take k)) ∧ (∀ q, ab.map (·.block) = some q → am.map (·.block) ≠ some q) ∧ Below w1.heap.size w1 wr) (fun _ _ iv _ => rn - (intOf iv).toNat)
      case atStart =>
        refine ⟨0, _, _, 0, 0, rfl, by omega, rfl, rfl, (Own.new w1 (Nat.le_refl _) _ UInt64).alloc _, ?_, ?_, below2 w1 _ _⟩
        · have h9 := Own.new (w1.alloc (.cells #[] 68)) (B := w1.heap.size) (by simp) 92 DuD
          simp only [World.size_alloc] at h9
          exact h9
        · intro q e1 e2
          simp at e1 e2
          omega
      case round =>
        obtain ⟨k, ab, am, cb, cm, rfl, hk, rfl, rfl, hV, hM, hne, hb⟩ := hrel
        have hzr := hb.size
        by_cases hlt : k < rn
        · obtain ⟨b1, off1, x, rfl, hx, c0, c1⟩ := (hr1.belowN hC1).getDu hb (show k < r.length by have := HRN.out; omega)
          have hb1w : b1 < w1.heap.size := by
            obtain ⟨bb, oo, e, h9⟩ := (hr1.belowN hC1).lt (fun e => by have := HRN.out; rw [e] at this; simp at this; omega)
            injection e with e; injection e with e1 _ _; omega
          have HXS := hide (valsD_snoc hx.out)
          have HMS := hide (moreD_snoc (y := y) hx.out)
          have HKV := hide (show k = (valsD (r.take k)).length by have := HRN.out; simp [valsD]; omega)
          have HKM := hide (show k = (moreD y (r.take k)).length by have := HRN.out; simp [moreD]; omega)
          have HNE := hide hne
          have hkb1 : (k : Int) < (rn : Int) := by omega
          have hkb2 : (0 : Int) ≤ (k : Int) := by omega
          clear hne
          go_wp2_with (at_builtin; refine wpList_push tyU hV x.v rfl rfl rfl rfl rfl rfl HKV.out hzr (by omega) ?_; intro a5 c5 w5 hown5 hg5 hm5)
          have hb5 := below_push hb hV hg5 hzr
          have hz5 := hb5.size
          have hM5 := hM.grown hg5 (by cases hab : am.map (·.block) with | none => exact .inl rfl | some q => exact .inr (fun e => HNE.out q e.symm hab))
          rw [HXS.out] at hown5
          have hne5 : ∀ q, a5.map (·.block) = some q → am.map (·.block) ≠ some q := fun q e1 e2 => by
            rcases hm5 with e | ⟨q', e, hq'⟩
            · rw [e] at e1; exact HNE.out q e1 e2
            · rw [e] at e1; injection e1 with e1; have := (hM.blk q e2).2; omega
          have HNE5 := hide hne5
          obtain ⟨y0, _⟩ := bcell (show Below w1.heap.size w1 w5 from hb5)
          have x0 : w5.cell? ⟨b1, off1 + k * 2, none⟩ = some (.int .u64 (x.v.toNat : Int)) := ((y0 b1 _ hb1w).trans (((bcell hb).1 b1 _ hb1w).symm.trans c0))
          have x1 : w5.cell? ⟨b1, off1 + k * 2 + 1, none⟩ = some (.int .u64 (x.d.toNat : Int)) := ((y0 b1 _ hb1w).trans (((bcell hb).1 b1 _ hb1w).symm.trans c1))
          have hb15 : b1 < w5.heap.size := by omega
          have hM1 : At (w5.alloc (.cells #[.int .u64 (y.toNat : Int), .int .u64 (x.d.toNat : Int)] 68)).drew (some ⟨w5.heap.size, 0, none⟩) [y, x.d] := At.ofBlk (Blk.new w5 68 #[.int .u64 (y.toNat : Int), .int .u64 (x.d.toNat : Int)]) [y, x.d] rfl
          have hn1 := below_new12 w5 (.cells #[.int .u64 (y.toNat : Int), .int .u64 (x.d.toNat : Int)] 68)
          have hn2 := below2 w5 (.cells #[.int .u64 (y.toNat : Int), .int .u64 (x.d.toNat : Int)] 68) (.cells #[.int .u64 (x.v.toNat : Int), .int .u64 ((y * x.d).toNat : Int)] 92)
          have hMB : Own ((w5.alloc (.cells #[.int .u64 (y.toNat : Int), .int .u64 (x.d.toNat : Int)] 68)).alloc (.cells #[.int .u64 (x.v.toNat : Int), .int .u64 ((y * x.d).toNat : Int)] 92)).drew w1.heap.size 92 am cm (moreD y (r.take k)) := (hM5.belowN hn2).drew
          have hVB : Own ((w5.alloc (.cells #[.int .u64 (y.toNat : Int), .int .u64 (x.d.toNat : Int)] 68)).alloc (.cells #[.int .u64 (x.v.toNat : Int), .int .u64 ((y * x.d).toNat : Int)] 92)).drew w1.heap.size 68 a5 c5 (valsD (r.take (k + 1))) := (hown5.belowN hn2).drew
          have hbB : Below w1.heap.size w1 ((w5.alloc (.cells #[.int .u64 (y.toNat : Int), .int .u64 (x.d.toNat : Int)] 68)).alloc (.cells #[.int .u64 (x.v.toNat : Int), .int .u64 ((y * x.d).toNat : Int)] 92)).drew := (hb5.trans (hn2.mono hz5)).drew
          have hS1 : At ((w5.alloc (.cells #[.int .u64 (y.toNat : Int), .int .u64 (x.d.toNat : Int)] 68)).alloc (.cells #[.int .u64 (x.v.toNat : Int), .int .u64 ((y * x.d).toNat : Int)] 92)).drew (some ⟨w5.heap.size + 1, 0, none⟩) [(⟨x.v, y * x.d⟩ : DuD)] := by
            have h9 := At.ofBlk (Blk.new (w5.alloc (.cells #[.int .u64 (y.toNat : Int), .int .u64 (x.d.toNat : Int)] 68)) 92 #[.int .u64 (x.v.toNat : Int), .int .u64 ((y * x.d).toNat : Int)]) [(⟨x.v, y * x.d⟩ : DuD)] rfl
            simp only [World.size_alloc] at h9
            exact h9
          obtain ⟨S', hS'⟩ : ∃ S' : World → Prop, S' = fun w' => w'.cell? ⟨b1, off1 + k * 2, none⟩ = some (.int .u64 (x.v.toNat : Int)) ∧ w'.cell? ⟨b1, off1 + k * 2 + 1, none⟩ = some (.int .u64 (x.d.toNat : Int)) := ⟨_, rfl⟩
          have HSE : Hid (∀ w', S' w' → w'.cell? ⟨b1, off1 + k * 2, none⟩ = some (.int .u64 (x.v.toNat : Int)) ∧ w'.cell? ⟨b1, off1 + k * 2 + 1, none⟩ = some (.int .u64 (x.d.toNat : Int))) := hide fun w' h => by rw [hS'] at h; exact h
          have HSB : Hid (∀ w', (∀ o, w'.cell? ⟨b1, o, none⟩ = w5.cell? ⟨b1, o, none⟩) → S' w') := hide fun w' h => by rw [hS']; exact ⟨(h _).trans x0, (h _).trans x1⟩
          have HSI : Hid (S' w5.drew) := HSB.out _ (fun o => rfl)
          have HS2 : Hid (S' (w5.alloc (.cells #[.int .u64 (y.toNat : Int), .int .u64 (x.d.toNat : Int)] 68)).drew) := HSB.out _ (fun o => (bcell hn1).1 b1 o hb15)
          have HS3 : Hid (S' ((w5.alloc (.cells #[.int .u64 (y.toNat : Int), .int .u64 (x.d.toNat : Int)] 68)).alloc (.cells #[.int .u64 (x.v.toNat : Int), .int .u64 ((y * x.d).toNat : Int)] 92)).drew) := HSB.out _ (fun o => (bcell hn2).1 b1 o hb15)
          have HMUL := hide (fun W h9 => RMul_calls y x.d (some ⟨w5.heap.size, 0, none⟩) 2 W h9)
          obtain ⟨m, hm⟩ : ∃ m, y * x.d = m := ⟨_, rfl⟩
          rw [hm] at HMUL HMS hMB hVB hbB hS1 HS3 hn2
          clear hS' hm c0 c1 hne5 hM hV y0
          refine wp_region_calls 12 17 S' (by kernel_rfl) (by kernel_rfl) HSI.out ?_
          simp only [List.take_succ_cons, List.take_zero, List.drop_succ_cons, List.drop_zero, Nat.reduceSub]
          iterate 12
            apply headK_step (by rfl)
            · intro w' hw'
              obtain ⟨s0, s1⟩ := HSE.out w' hw'
              go_simp
              rfl
            intro a' ha'
            simp only [Act.put, List.setIfInBounds_toArray, List.set_cons_succ, List.set_cons_zero] at ha'
            subst ha'
          refine headK_nil ?_
          rw [midK]
          intro K0 hK0
          have HK0 := hide hK0
          clear hK0
          go_simp
          refine HK0.out _ _ HS2.out ?_
          clear HK0
          rw [midK]
          intro K1 hK1
          have HK1 := hide hK1
          clear hK1
          go_simp
          refine (HMUL.out _ hM1).mono ?_
          rintro e wm ⟨rfl, hwm⟩
          subst hwm
          refine HK1.out _ _ HS2.out ?_
          clear HK1
          rw [midK]
          intro K2 hK2
          have HK2 := hide hK2
          clear hK2
          go_simp
          refine HK2.out _ _ HS2.out ?_
          clear HK2
          rw [midK]
          intro K3 hK3
          have HK3 := hide hK3
          clear hK3
          go_simp
          refine HK3.out _ _ HS3.out ?_
          clear HK3
          rw [midK]
          intro K4 hK4
          have HK4 := hide hK4
          clear hK4
          refine step_pushAll tyD hMB (l2 := [(⟨x.v, m⟩ : DuD)]) hS1 rfl rfl rfl rfl HKM.out rfl hbB.size (by omega) (by omega) ?_
          intro a8 c8 w8 hown8 hg8 hm8
          have hbn : some b1 ≠ am.map (·.block) := fun e => by have := (hM5.blk b1 e.symm).1; omega
          have hS8 : S' w8 := HSB.out w8 (fun o => (World.cell?_of_block (hg8.block b1 (by simp; omega) hbn)).trans ((bcell hn2).1 b1 o hb15))
          refine HK4.out _ _ hS8 ?_
          clear HK4
          rw [midK]
          rw [HMS.out] at hown8
          have hV8 := hVB.grown hg8 (by cases hab : a5.map (·.block) with | none => exact .inl rfl | some q => exact .inr (fun e => HNE5.out q hab e.symm))
          have hne8 : ∀ q, a5.map (·.block) = some q → a8.map (·.block) ≠ some q := fun q e1 e2 => by
            rcases hm8 with e | ⟨q', e, hq'⟩
            · rw [e] at e2; exact HNE5.out q e1 e2
            · rw [e] at e2; injection e2 with e2; have := (hown5.blk q e1).2; simp at hq'; omega
          have hb8 := below_push hbB hMB hg8 hbB.size
          clear HSI HS2 HS3 HSE HSB hS8 hS1 hMB hVB hM1
          go_wp2
          refine NoPanic.normal ?_
          go_wp2
          go_roundw
          case rel => exact ⟨k + 1, a5, a8, c5, c8, by go_num, by omega, rfl, rfl, hV8, hown8, hne8, hb8⟩
          case measure => simp [intOf] <;> omega
        · have hkn : k = rn := by omega
          have hkn1 : rn ≤ k := by omega
          rw [hkn, HRN.out, List.take_length] at hV hM
          have hC2 := hC1.trans (hb.mono hz1)
          obtain ⟨w2, hw2⟩ : ∃ w2, w2 = wr := ⟨_, rfl⟩
          rw [← hw2] at hC2 hV hM ⊢
          have HKV := hide (show k = (valsD r).length by rw [hkn]; exact HVL.out)
          have HKM := hide (show k = (moreD y r).length by rw [hkn]; exact HML.out)
          have hJ2 : dualE regs l k = E := by rw [HKM.out]; exact HJ2.out
          have HJ2' := hide hJ2
          clear hkn hw2 hne hb hzr hJ2
          obtain ⟨q0, q1, q2, q3⟩ := (hX.belowN hC2).c2
          go_wp2_with (first
            | (go_at_call 30; first
                | (have hgd := hF4; go_must ((with_reducible refine (JRun_calls regs a c _ l rfl am k cm (moreD y r) HKM.out C E HJ4.out HJ2'.out w4 (h1.belowN hC4) (by omega) hM4.at_).mono ?_); rintro e w5 ⟨a5, c5, rfl, hG5, hb5⟩; have hC5 := hC4.trans (hb5.mono hC4.size); have hA5 := hA4.belowN hb5; have hF5 := hF4.belowN hb5))
                | go_must ((with_reducible refine (JRun_calls regs a c _ l rfl _ rn rc r HRN.out A E HA.out HE.out w2 (h1.belowN hC2) (by omega) (hr1.belowN hC2)).mono ?_); rintro e w3 ⟨a3, c3, rfl, hA3, hb3⟩; have hC3 := hC2.trans (hb3.mono hC2.size); have hM3 := hM.belowN hb3; have hV3 := hV.belowN hb3; obtain ⟨q0, q1, q2, q3⟩ := (hX.belowN hC3).c2))
            | (go_at_call 55; go_must ((with_reducible refine (RunN regs a c _ l ab cb k (valsD r) w3 X E rfl HKV.out HJ3.out HJ1.out (h1.belowN hC3) (by omega) hV3.at_ (by omega)).mono ?_); rintro e w4 ⟨a4, c4, rfl, hF4, hb4⟩; have hC4 := hC3.trans (hb4.mono hC3.size); have hM4 := hM3.belowN hb4; have hA4 := hA3.belowN hb4; obtain ⟨q0, q1, q2, q3⟩ := (hX.belowN hC4).c2)))
          have hz5 := hC5.size
          go_loopw [16] (fun iv wr => ∃ j : Nat, iv = .int .i64 j ∧ j ≤ A.length ∧ Below w5.heap.size w5 wr) (fun iv _ => A.length - (intOf iv).toNat)
          case atStart => exact ⟨0, rfl, by omega, Below.refl _ _⟩
          case round =>
            obtain ⟨j, rfl, hj, hb'⟩ := hrel
            have hzr' := hb'.size
            by_cases hlt : j < A.length
            · obtain ⟨b1, off1, x, rfl, hx, e0, e1⟩ := hA5.at_.getDu hb' hlt
              obtain ⟨b2, off2, z, rfl, hz, e2⟩ := hF5.at_.getU hb' (show j < X.length by have := HXL.out; omega)
              obtain ⟨b3, off3, t, rfl, ht, e3, e4⟩ := hG5.at_.getDu hb' (show j < C.length by have := HCL.out; omega)
              have hzx : z = x.v := by
                have h9 := hz.out
                rw [HXV.out] at h9
                unfold valsD at h9
                rw [List.getElem?_map, hx.out] at h9
                simpa using h9.symm
              have htx : t = ⟨x.v, y * x.d⟩ := by
                have h9 := ht.out
                rw [HCM.out] at h9
                unfold moreD at h9
                rw [List.getElem?_map, hx.out] at h9
                simpa using h9.symm
              subst hzx htx
              simp only at e3 e4
              have hM : At (wr.alloc (.cells #[.int .u64 (y.toNat : Int), .int .u64 (x.d.toNat : Int)] 68)).drew (some ⟨wr.heap.size, 0, none⟩) [y, x.d] := At.ofBlk (Blk.new wr 68 #[.int .u64 (y.toNat : Int), .int .u64 (x.d.toNat : Int)]) [y, x.d] rfl
              have hN0 : Below wr.heap.size wr (wr.alloc (.cells #[.int .u64 (y.toNat : Int), .int .u64 (x.d.toNat : Int)] 68)).drew := Below.drew (below_new12 wr _)
              have hbM := hb'.trans (hN0.mono hzr')
              have hXj : j < X.length := by have := HXL.out; omega
              have hCj : j < C.length := by have := HCL.out; omega
              have g4 : (j : Int) < (A.length : Int) := by omega
              have g5 : (j : Int) < (X.length : Int) := by omega
              have g6 : (j : Int) < (C.length : Int) := by omega
              have g7 : (0 : Int) ≤ (j : Int) := by omega
              obtain ⟨y0, _⟩ := bcell hN0
              have k1 : b1 < wr.heap.size := by have := (hA5.blk b1 rfl).2; omega
              have k2 : b2 < wr.heap.size := by have := (hF5.blk b2 rfl).2; omega
              have k3 : b3 < wr.heap.size := by have := (hG5.blk b3 rfl).2; omega
              have f0 := (y0 b1 (off1 + j * 2) k1).trans e0
              have f1 := (y0 b1 (off1 + j * 2 + 1) k1).trans e1
              have f2 := (y0 b2 (off2 + j) k2).trans e2
              have f3 := (y0 b3 (off3 + j * 2) k3).trans e3
              have f4 := (y0 b3 (off3 + j * 2 + 1) k3).trans e4
              clear y0
              go_wp2_with fail
              go_region_held3 (fun w' => w'.cell? ⟨b1, off1 + j * 2, none⟩ = some (.int .u64 (x.v.toNat : Int)) ∧ w'.cell? ⟨b1, off1 + j * 2 + 1, none⟩ = some (.int .u64 (x.d.toNat : Int)) ∧ w'.cell? ⟨b2, off2 + j, none⟩ = some (.int .u64 (x.v.toNat : Int)) ∧ w'.cell? ⟨b3, off3 + j * 2, none⟩ = some (.int .u64 (x.v.toNat : Int)) ∧ w'.cell? ⟨b3, off3 + j * 2 + 1, none⟩ = some (.int .u64 ((y * x.d).toNat : Int))) (go_keep)
                (first | (go_at_call 56; go_must ((with_reducible refine (RMul_calls y x.d _ _ _ hM).mono ?_); rintro e wm ⟨rfl, hwm⟩; subst hwm)))
              go_wp2
              go_roundw
              case rel => exact ⟨j + 1, by go_num, by omega, hbM⟩
              case measure => simp [intOf] <;> omega
            · have hjk : A.length ≤ j := by omega
              have hC6 := hC5.trans (hb'.mono hz5)
              clear hlt hj
              go_wp2_with (go_at_call 29; go_must ((with_reducible refine (goes14_calls _).mono ?_); rintro e w8 ⟨rfl, hb8⟩))
              go_ret
              exact ⟨rfl, hb0.trans ((hC6.trans (hb8.mono hC6.size)).mono hb0.size)⟩
  · go_enter Try.func12, Try.ntmps12
    go_wp2_with (go_at_call 29; go_must ((with_reducible refine (goes14_calls _).mono ?_); rintro e w8 ⟨rfl, hb8⟩))
    go_ret
    exact ⟨rfl, hb0.trans (hb8.mono hb0.size)⟩
end Go.Proofs.Ythncfoompoheoaa
