/- Several texts of mine in one file. -/
import Derived.Test.YtcamcnahkdiefaaGreatYMCan
/- Chapter 24: a pass of duals (model.pass). -/
namespace Go.Proofs.YtcamcnahkdiefaaGreat
set_option linter.unusedVariables false
set_option linter.unusedSimpArgs false
open Go.RowKit
noncomputable def ChD.dstep (c : ChD) (t : Nat) (now fx : List DuD) : List DuD := (dualR c.p.regs c.p.l (now ++ fx ++ [(⟨UInt64.ofNat t, 0⟩ : DuD)])).take now.length
noncomputable def ChD.diter (c : ChD) (now fx : List DuD) : Nat → List DuD
  | 0 => now
  | t + 1 => c.dstep t (c.diter now fx t) fx
noncomputable def ChD.dloss (c : ChD) (now fx : List DuD) : DuD := (dualR c.q.regs c.q.l (now ++ fx)).getD 0 ⟨0, 0⟩
noncomputable def ChD.dpass (c : ChD) (now fx : List DuD) (l : Nat) : DuD := c.dloss (c.diter now fx l) fx
theorem ChD.drun {c : ChD} (hc : c.Ok) {now fx : List DuD} (hn : (now.length : Int) = c.x) (hf : fx.length = c.th.length) (t : Nat) :
    dualE c.p.regs c.p.l (now ++ fx ++ [(⟨UInt64.ofNat t, 0⟩ : DuD)]).length = 0 ∧ (dualR c.p.regs c.p.l (now ++ fx ++ [(⟨UInt64.ofNat t, 0⟩ : DuD)])).length = c.p.regs.toNat := by
  obtain ⟨f, e, g⟩ := hc.hp
  have hr := hc.r1
  have hl : ((now ++ fx ++ [(⟨UInt64.ofNat t, 0⟩ : DuD)]).length : Int) ≤ c.p.regs := by simp; omega
  rw [e]
  refine ⟨dualE_of g hl, ?_⟩
  rw [dualR_good g hl, runD_length]
  unfold startD
  simp
  simp at hl
  omega
theorem ChD.dlast {c : ChD} (hc : c.Ok) {now fx : List DuD} (hn : (now.length : Int) = c.x) (hf : fx.length = c.th.length) :
    dualE c.q.regs c.q.l (now ++ fx).length = 0 ∧ (dualR c.q.regs c.q.l (now ++ fx)).length = c.q.regs.toNat := by
  obtain ⟨f, e, g⟩ := hc.hq
  have hr := hc.r2
  have hl : ((now ++ fx).length : Int) ≤ c.q.regs := by simp; omega
  rw [e]
  refine ⟨dualE_of g hl, ?_⟩
  rw [dualR_good g hl, runD_length]
  unfold startD
  simp
  simp at hl
  omega
theorem ChD.diter_len {c : ChD} (hc : c.Ok) {now fx : List DuD} (hn : (now.length : Int) = c.x) (hf : fx.length = c.th.length) : ∀ t, ((c.diter now fx t).length : Int) = c.x
  | 0 => hn
  | t + 1 => by
    have ih := ChD.diter_len hc hn hf t
    have h1 := (ChD.drun hc ih hf t).2
    have hr := hc.r1
    unfold ChD.diter ChD.dstep
    rw [List.length_take, h1]
    omega
theorem At.takeN {α : Type} [Flat α] {w : World} {a : Option Addr} {l : List α} (h : At w a l) (k : Nat) : At w a (l.take k) := fun i x hx => h i x (by
  rw [List.getElem?_take] at hx
  split at hx
  · exact hx
  · cases hx)
theorem wrap_u64 {t : Nat} (h : t < 65536) : IntKind.u64.wrap (t : Int) = (t : Int) ∧ ((UInt64.ofNat t).toNat : Int) = (t : Int) := by
  constructor
  · simp only [IntKind.wrap, IntKind.bits, IntKind.signed]
    simp
    omega
  · rw [UInt64.toNat_ofNat', Nat.mod_eq_of_lt (by omega)]
set_option maxRecDepth 100000 in
set_option maxHeartbeats 12800000 in
theorem Pass_calls (c : ChD) (hc : c.Ok) (xs : List UInt64) (xn tn ln : Nat) (hxn : xn = xs.length) (hcx : c.x = (xn : Int)) (htn : tn = c.th.length) (hln : ln < 65536) (g3 g4 g5 : Nat) (xa : Option Addr) (xc : Nat) (ta : Option Addr) (tc : Nat) (i : Int) (w : World) (h : NumAt w g3 g4 g5 xa xc ta tc xs c.th i)
    (hp : At w c.p.a c.p.l) (hpl : c.p.l.length ≤ 1000000) (hq : At w c.q.a c.q.l) (hql : c.q.l.length ≤ 1000000) (V D : UInt64) (hV : c.dpass (numS (xs ++ c.th) i 0 xn) (numS (xs ++ c.th) i xn tn) ln = ⟨V, D⟩) :
    Calls Tryz.prog 53 #[.agg #[.int .i64 c.p.regs, .slice c.p.a c.p.l.length c.p.c], .agg #[.int .i64 c.q.regs, .slice c.q.a c.q.l.length c.q.c], .int .i64 (xn : Int), .int .i64 (tn : Int), .int .i64 (ln : Int), numF g3 g4 g5] w fun e w' => e = .returned (.agg #[.int .u64 (V.toNat : Int), .int .u64 (D.toNat : Int)]) ∧ Below w.heap.size w w' := by
  have hx1 := hc.x1
  have hx2 := hc.x2
  have ht2 := hc.t2
  have hr1 := hc.r1
  rw [hcx] at hx1 hx2 hr1
  rw [← htn] at ht2 hr1
  obtain ⟨hX1, hX2, hX3, hX4, hb0, hz0⟩ := four_boxes w 24 24 113 111 #[.int .i64 c.p.regs, .slice c.p.a c.p.l.length c.p.c] #[.int .i64 c.q.regs, .slice c.q.a c.q.l.length c.q.c] #[numF g3 g4 g5] #[.int .u64 0, .int .u64 0]
  obtain ⟨FX, hFX⟩ : ∃ l, numS (xs ++ c.th) i xn tn = l := ⟨_, rfl⟩
  obtain ⟨N0, hN0⟩ : ∃ l, numS (xs ++ c.th) i 0 xn = l := ⟨_, rfl⟩
  have hFl : FX.length = tn := by rw [← hFX, numS_len]
  have hNl : N0.length = xn := by rw [← hN0, numS_len]
  have hFc : FX.length = c.th.length := by rw [hFl, htn]
  have hN := h.belowN hb0
  have HS0 := hide (State_calls 0 xn (w.heap.size + 1 + 1) g3 g4 g5 xa xc ta tc xs c.th xn tn hxn htn i _ hN hX3 (by omega) (by omega))
  have HS1 := hide (fun (W : World) (hW : Below w.heap.size w W) (hB : Blk W (w.heap.size + 1 + 1) 113 #[numF g3 g4 g5]) => State_calls xn tn (w.heap.size + 1 + 1) g3 g4 g5 xa xc ta tc xs c.th xn tn hxn htn i W (h.belowN hW) hB (by omega) (by omega))
  rw [hN0, hFX] at hV
  rw [hN0, show ((0 : Nat) : Int) = 0 from rfl] at HS0
  rw [hFX] at HS1
  have HV := hide hV
  have HC := hide hc
  have HCX := hide hcx
  have HFC := hide hFc
  have HFL := hide hFl.symm
  have HNL := hide hNl
  have hpp := hp.belowN hb0
  clear hV hFX hN0 hxn htn hN hc hcx hFc hFl hNl
  go_enter Tryz.func53, Tryz.ntmps53
  go_wp2_with (first
    | (go_at_call 104; first
        | (have hgd := hown1; go_must ((with_reducible refine (HS1.out _ hB1 (hX3.belowN hb1)).mono ?_); rintro vv w2 ⟨a2, c2, rfl, hown2, hb2⟩))
        | go_must ((with_reducible refine (HS0.out).mono ?_); rintro vv w1 ⟨a1, c1, rfl, hown1, hb1⟩; have hB1 := hb0.trans (hb1.mono hb0.size))))
  have hB2 := hB1.trans (hb2.mono hB1.size)
  have hX12 := (hX1.belowN hb1).belowN hb2
  have hX22 := (hX2.belowN hb1).belowN hb2
  have hX42 := (hX4.belowN hb1).belowN hb2
  have hz2 := hB2.size
  have hgs : w.heap.size + 1 + 1 + 1 + 1 ≤ w1.heap.size := by have := hb1.size; omega
  have hg12 := hb2.size
  have hf0 : FX ≠ [] → a2.map (·.block) ≠ a1.map (·.block) := fun hne e => by
    obtain ⟨g, e1, e2, _⟩ := hown2.some_ hne
    have h3 := (hown1.blk g (by rw [← e, e1]; rfl)).2
    omega
  have hblk0 : ∀ q, a1.map (·.block) = some q → w.heap.size + 1 + 1 + 1 < q := fun q hq => by have := (hown1.blk q hq).1; omega
  go_loopw [14, 30] (fun nv iv wr => ∃ (t : Nat) (a' : Option Addr) (c' : Nat), nv = .slice a' xn c' ∧ iv = .int .i64 t ∧ t ≤ ln ∧ Gr wr (w.heap.size + 1 + 1 + 1 + 1) 111 a' c' (c.diter N0 FX t) ∧ At wr a2 FX ∧ (FX ≠ [] → a2.map (·.block) ≠ a'.map (·.block)) ∧ (∀ q, a'.map (·.block) = some q → w.heap.size + 1 + 1 + 1 < q) ∧ Below (w.heap.size + 1 + 1 + 1 + 1) w2 wr) (fun _ iv _ => ln - (intOf iv).toNat)
  case atStart => exact ⟨0, a1, c1, rfl, rfl, by omega, .inl ((hown1.belowN hb2).mono (by omega)), hown2.at_, hf0, hblk0, Below.refl _ _⟩
  case round =>
    obtain ⟨t, a', c', rfl, rfl, ht, hG, hF, hfar, hblk, hb3⟩ := hrel
    have hz3 := hb3.size
    have hBw := hB2.trans (hb3.mono (by omega))
    have hX13 := hX12.below hb3 (by omega)
    have hX23 := hX22.below hb3 (by omega)
    have hX43 := hX42.below hb3 (by omega)
    by_cases hlt : t < ln
    · obtain ⟨N, hN⟩ : ∃ N, c.diter N0 FX t = N := ⟨_, rfl⟩
      have hNl : N.length = xn := by
        have := ChD.diter_len HC.out (now := N0) (fx := FX) (by rw [HNL.out, HCX.out]) HFC.out t
        rw [hN, HCX.out] at this
        omega
      obtain ⟨dE, dL⟩ := ChD.drun HC.out (now := N) (fx := FX) (by rw [hNl, HCX.out]) HFC.out t
      have hst : c.diter N0 FX (t + 1) = (dualR c.p.regs c.p.l (N ++ FX ++ [(⟨UInt64.ofNat t, 0⟩ : DuD)])).take xn := by
        show c.dstep t (c.diter N0 FX t) FX = _
        rw [hN]
        unfold ChD.dstep
        rw [hNl]
      have hlen : xn + tn + 1 = (N ++ FX ++ [(⟨UInt64.ofNat t, 0⟩ : DuD)]).length := by simp [hNl, ← HFL.out]; omega
      rw [← hlen] at dE
      rw [hN] at hG
      obtain ⟨w16, w17⟩ := wrap_u64 (t := t) (by omega)
      obtain ⟨tv, htv⟩ : ∃ tv, UInt64.ofNat t = tv := ⟨_, rfl⟩
      rw [htv] at dL hst hlen w17
      obtain ⟨R, hR⟩ : ∃ R, dualR c.p.regs c.p.l (N ++ FX ++ [(⟨tv, 0⟩ : DuD)]) = R := ⟨_, rfl⟩
      rw [hR] at dL hst
      have HRUN := hide (fun (W : World) (ra : Option Addr) (rc : Nat) (k1 : At W c.p.a c.p.l) (k2 : At W ra (N ++ FX ++ [(⟨tv, 0⟩ : DuD)])) => JRun_calls c.p.regs c.p.a c.p.c c.p.l.length c.p.l rfl ra (xn + tn + 1) rc _ hlen R 0 hR dE W k1 hpl k2)
      have hwv : IntKind.u64.wrap (t : Int) = (tv.toNat : Int) := by rw [w16, w17]
      have HCO := hide (fun W => DConst_calls tv W)
      have hRl : xn ≤ R.length := by rw [dL]; omega
      have HST := hide hst
      have HNL2 := hide hNl.symm
      obtain ⟨p0, p1, p2, p3⟩ := hX13.c2
      obtain ⟨S', hS'⟩ : ∃ S' : World → Prop, S' = fun w' => w'.cell? ⟨w.heap.size, 0, none⟩ = some (.int .i64 c.p.regs) ∧ w'.cell? ⟨w.heap.size, 1, none⟩ = some (.slice c.p.a c.p.l.length c.p.c) := ⟨_, rfl⟩
      have HSE : Hid (∀ w', S' w' → w'.cell? ⟨w.heap.size, 0, none⟩ = some (.int .i64 c.p.regs) ∧ w'.cell? ⟨w.heap.size, 1, none⟩ = some (.slice c.p.a c.p.l.length c.p.c)) := hide (fun w' h => by rw [hS'] at h; exact h)
      have HSI : Hid (∀ w4, Below (w.heap.size + 1 + 1 + 1 + 1) wr w4 → S' w4) := hide (fun w4 h4 => by
        rw [hS']
        obtain ⟨y0, y1, _⟩ := (hX13.below h4 (by omega)).c2
        exact ⟨y0, y1⟩)
      have hBz : w.heap.size + 1 + 1 + 1 + 1 ≤ wr.heap.size := by omega
      have hdw : Below (w.heap.size + 1 + 1 + 1 + 1) wr wr.drew := Below.drew (Below.refl _ _)
      have hdf : Below wr.heap.size wr wr.drew := Below.drew (Below.refl _ _)
      have hGd := hG.belowN hdf
      have hFd := hF.belowN hdf
      clear hS' hN hNl dE dL hst hlen hR w16 w17 htv hG hF
      obtain ⟨wo, rfl⟩ : ∃ wo : World, wo = wr := ⟨_, rfl⟩
      go_wp2
      refine wp_region_fan [0, 1, 2, 4, 5] [3, 6, 7, 8, 9, 10] [11, 12] [13, 14] S' (by kernel_rfl) (by kernel_rfl) (HSI.out _ hdw) ?_
      simp only [pickL, List.filterMap_cons, List.filterMap_nil, List.getElem?_cons_succ, List.getElem?_cons_zero]
      iterate 5
        apply headK_step (by rfl)
        · intro w' hw'
          obtain ⟨s0, s1⟩ := HSE.out w' hw'
          go_simp
          rfl
        intro a' ha'
        simp only [Act.put, List.setIfInBounds_toArray, List.set_cons_succ, List.set_cons_zero] at ha'
        subst ha'
      refine headK_nil ?_
      rw [midF]
      intro K0 hK0
      have HK0 := hide hK0
      clear hK0
      refine step_gr tyD hGd hFd rfl rfl rfl rfl HNL2.out HFL.out hBz (by omega) (by omega) ?_
      intro a5 c5 w5 hG5 hb5 hg5 hc5
      have hB5 := hdw.trans hb5
      refine HK0.out _ _ (HSI.out _ hB5) ?_
      clear HK0
      rw [midF]
      intro K0 hK0
      have HK0 := hide hK0
      clear hK0
      go_simp
      go_at_call 105
      refine (HCO.out _).mono ?_
      rintro e w6 ⟨rfl, hb6⟩
      have hz5 := hB5.size
      have hB6 := hB5.trans (hb6.mono (Nat.le_trans hBz hz5))
      refine HK0.out _ _ (HSI.out _ hB6) ?_
      clear HK0
      rw [midF]
      intro K0 hK0
      have HK0 := hide hK0
      clear hK0
      go_simp
      have hz6 := hB6.size
      have hbx := below_box w6 (.cells #[.int .u64 (tv.toNat : Int), .int .u64 0] 111)
      have hB7 := hB6.trans (hbx.mono (Nat.le_trans hBz hz6))
      refine HK0.out _ _ (HSI.out _ hB7) ?_
      clear HK0
      rw [midF]
      intro K0 hK0
      have HK0 := hide hK0
      clear hK0
      have hG7 := (hG5.belowN hb6).belowN hbx
      have hz7 := hB7.size
      have HN5 : Hid (xn + tn = (N ++ FX).length) := hide (by rw [List.length_append, ← HNL2.out, ← HFL.out])
      refine step_gr tyD hG7 (l2 := [(⟨tv, 0⟩ : DuD)]) (At.ofBlk (Blk.new w6 _ #[.int .u64 (tv.toNat : Int), .int .u64 0]) _ rfl) rfl rfl rfl rfl HN5.out rfl (Nat.le_trans hBz hz7) (by omega) (by decide) ?_
      intro a8 c8 w8 hG8 hb8 hg8 hc8
      have hB8 := hB7.trans hb8
      refine HK0.out _ _ (HSI.out _ hB8) ?_
      clear HK0
      rw [midF]
      intro K0 hK0
      have HK0 := hide hK0
      clear hK0
      go_simp
      go_at_call 69
      refine (HRUN.out w8 a8 c8 (hp.belowN (hBw.trans (hB8.mono (by omega)))) hG8.at_).mono ?_
      rintro e w9 ⟨a9, c9, rfl, hown9, hb9⟩
      have hz8 := hB8.size
      have hB9 := hB8.trans (hb9.mono (Nat.le_trans hBz hz8))
      refine HK0.out _ _ (HSI.out _ hB9) ?_
      clear HK0
      rw [midF]
      intro K0 hK0
      have HK0 := hide hK0
      clear hK0
      go_simp
      refine HK0.out _ _ (HSI.out _ hB9) ?_
      clear HK0 HSI HSE
      rw [midF]
      iterate 2
        apply headK_step (by rfl)
        · intro w' _
          go_simp
          rfl
        intro a' ha'
        simp only [Act.put, List.setIfInBounds_toArray, List.set_cons_succ, List.set_cons_zero] at ha'
        subst ha'
      refine headK_nil ?_
      have hRne : R ≠ [] := by rintro rfl; simp at hRl; omega
      obtain ⟨g9, e9, hg9, hg9'⟩ := hown9.some_ hRne
      subst e9
      have hcap := hown9.cap
      have k1 : xn ≤ c9 := by omega
      have k2 : R.length ≤ c9 := hcap.1
      have k3 : c9 ≤ 9223372036854775807 := Nat.le_trans hcap.2 (by decide)
      go_wp2
      refine NoPanic.normal ?_
      have hF5 := hFd.grown hg5 (fun hne => .inl (hfar hne))
      have hF7 := (hF5.belowN hb6).belowN hbx
      have hfar5 : FX ≠ [] → a2.map (·.block) ≠ a5.map (·.block) := fun hne e => by
        obtain ⟨b, off, e2, hlt2⟩ := hFd.lt hne
        rcases hc5 with e3 | ⟨q, e3, hq⟩
        · exact hfar hne (e.trans e3)
        · rw [e3, e2] at e
          injection e with e
          simp only at e
          omega
      have hF8 := hF7.grown hg8 (fun hne => .inl (hfar5 hne))
      have hF9 := hF8.belowN hb9
      have hfar9 : FX ≠ [] → a2.map (·.block) ≠ some g9 := fun hne e => by
        obtain ⟨b, off, e2, hlt2⟩ := hF8.lt hne
        rw [e2] at e
        injection e with e
        simp only at e
        omega
      have hat9 := hown9.at_.takeN xn
      have hB29 := hb3.trans hB9
      clear hF5 hF7 hF8 hfar5 hg5 hg8 hc5 hc8 hFd hGd hG5 hG7 hG8
      go_wp2
      go_roundw
      case rel => exact ⟨t + 1, some ⟨g9, 0, none⟩, xn, by go_num, by go_num, by omega, by rw [HST.out]; exact .inr ⟨hat9, by rw [List.length_take]; omega⟩, hF9, hfar9, fun q hq => by injection hq with hq; simp only at hq; omega, hB29⟩
      case measure => simp [intOf] <;> omega
    · have htl : t = ln := by omega
      subst htl
      obtain ⟨N, hN⟩ : ∃ N, c.diter N0 FX t = N := ⟨_, rfl⟩
      have hNl : N.length = xn := by
        have := ChD.diter_len HC.out (now := N0) (fx := FX) (by rw [HNL.out, HCX.out]) HFC.out t
        rw [hN, HCX.out] at this
        omega
      obtain ⟨dE, dL⟩ := ChD.dlast HC.out (now := N) (fx := FX) (by rw [hNl, HCX.out]) HFC.out
      have hlen : xn + tn = (N ++ FX).length := by simp [hNl, ← HFL.out]
      rw [← hlen] at dE
      rw [hN] at hG
      have hVV := HV.out
      unfold ChD.dpass ChD.dloss at hVV
      rw [hN] at hVV
      obtain ⟨R, hR⟩ : ∃ R, dualR c.q.regs c.q.l (N ++ FX) = R := ⟨_, rfl⟩
      rw [hR] at dL hVV
      have HRUN := hide (fun (W : World) (ra : Option Addr) (rc : Nat) (k1 : At W c.q.a c.q.l) (k2 : At W ra (N ++ FX)) => JRun_calls c.q.regs c.q.a c.q.c c.q.l.length c.q.l rfl ra (xn + tn) rc _ hlen R 0 hR dE W k1 hql k2)
      have hr2 := HC.out.r2
      rw [HCX.out] at hr2
      have hR1 : 1 ≤ R.length := by rw [dL]; omega
      have HR0 : Hid (R[0]? = some ⟨V, D⟩) := hide (by
        rw [List.getD_eq_getElem?_getD, List.getElem?_eq_getElem hR1] at hVV
        rw [List.getElem?_eq_getElem hR1]
        exact congrArg some hVV)
      have HNL2 := hide hNl.symm
      obtain ⟨p0, p1, p2, p3⟩ := hX23.c2
      obtain ⟨S', hS'⟩ : ∃ S' : World → Prop, S' = fun w' => w'.cell? ⟨w.heap.size + 1, 0, none⟩ = some (.int .i64 c.q.regs) ∧ w'.cell? ⟨w.heap.size + 1, 1, none⟩ = some (.slice c.q.a c.q.l.length c.q.c) := ⟨_, rfl⟩
      have HSE : Hid (∀ w', S' w' → w'.cell? ⟨w.heap.size + 1, 0, none⟩ = some (.int .i64 c.q.regs) ∧ w'.cell? ⟨w.heap.size + 1, 1, none⟩ = some (.slice c.q.a c.q.l.length c.q.c)) := hide (fun w' h => by rw [hS'] at h; exact h)
      have HSI : Hid (∀ w4, Below (w.heap.size + 1 + 1 + 1 + 1) wr w4 → S' w4) := hide (fun w4 h4 => by
        rw [hS']
        obtain ⟨y0, y1, _⟩ := (hX23.below h4 (by omega)).c2
        exact ⟨y0, y1⟩)
      have hBz : w.heap.size + 1 + 1 + 1 + 1 ≤ wr.heap.size := by omega
      have hdw : Below (w.heap.size + 1 + 1 + 1 + 1) wr wr.drew := Below.drew (Below.refl _ _)
      have hdf : Below wr.heap.size wr wr.drew := Below.drew (Below.refl _ _)
      have hGd := hG.belowN hdf
      have hFd := hF.belowN hdf
      clear hS' hN hNl dE dL hlen hR hG hF hVV
      obtain ⟨wo, rfl⟩ : ∃ wo : World, wo = wr := ⟨_, rfl⟩
      go_wp2
      refine wp_region_fan [0, 1, 2] [3, 4, 5] [6, 7] [8, 9] S' (by kernel_rfl) (by kernel_rfl) (HSI.out _ hdw) ?_
      simp only [pickL, List.filterMap_cons, List.filterMap_nil, List.getElem?_cons_succ, List.getElem?_cons_zero]
      iterate 3
        apply headK_step (by rfl)
        · intro w' hw'
          obtain ⟨s0, s1⟩ := HSE.out w' hw'
          go_simp
          rfl
        intro a' ha'
        simp only [Act.put, List.setIfInBounds_toArray, List.set_cons_succ, List.set_cons_zero] at ha'
        subst ha'
      refine headK_nil ?_
      rw [midF]
      intro K0 hK0
      have HK0 := hide hK0
      clear hK0
      refine step_gr tyD hGd hFd rfl rfl rfl rfl HNL2.out HFL.out hBz (by omega) (by omega) ?_
      intro a5 c5 w5 hG5 hb5 hg5 hc5
      have hB5 := hdw.trans hb5
      have hz5 := hB5.size
      refine HK0.out _ _ (HSI.out _ hB5) ?_
      clear HK0
      rw [midF]
      intro K0 hK0
      have HK0 := hide hK0
      clear hK0
      go_simp
      go_at_call 69
      refine (HRUN.out w5 a5 c5 (hq.belowN (hBw.trans (hB5.mono (by omega)))) hG5.at_).mono ?_
      rintro e w9 ⟨a9, c9, rfl, hown9, hb9⟩
      have hB9 := hB5.trans (hb9.mono (Nat.le_trans hBz hz5))
      refine HK0.out _ _ (HSI.out _ hB9) ?_
      clear HK0
      rw [midF]
      intro K0 hK0
      have HK0 := hide hK0
      clear hK0
      go_simp
      refine HK0.out _ _ (HSI.out _ hB9) ?_
      clear HK0 HSI HSE
      rw [midF]
      iterate 2
        apply headK_step (by rfl)
        · intro w' _
          go_simp
          rfl
        intro a' ha'
        simp only [Act.put, List.setIfInBounds_toArray, List.set_cons_succ, List.set_cons_zero] at ha'
        subst ha'
      refine headK_nil ?_
      have hRne : R ≠ [] := by rintro rfl; simp at hR1
      obtain ⟨g9, e9, hg9, hg9'⟩ := hown9.some_ hRne
      subst e9
      have x0 := hown9.cellAt HR0.out (f := 0) rfl
      have x1 := hown9.cellAt HR0.out (f := 1) rfl
      simp only [Nat.zero_mul, Nat.zero_add] at x0 x1
      have h00 : 0 < R.length := hR1
      have hX49 := hX43.below hB9 (by omega)
      obtain ⟨m0, m1, m2, m3⟩ := hX49.c2
      have hF := (hX49.set_ 0 (.int .u64 (V.toNat : Int))).set_ 1 (.int .u64 (D.toNat : Int))
      have hBe := hBw.trans (hB9.mono (by omega))
      go_wp2
      refine NoPanic.normal ?_
      go_wp2
      refine bodyPost_ret (results_row_D rfl _ _ (w.heap.size + 1 + 1 + 1) _ #[.int .u64 (V.toNat : Int), .int .u64 (D.toNat : Int)] (0, 0) _ rfl hF Tryz.underlying111 rfl (by kernel_rfl)) rfl ⟨rfl, ?_⟩
      exact (hBe.setCell (p := ⟨w.heap.size + 1 + 1 + 1, 0, none⟩) (by show _ ≤ w.heap.size + 1 + 1 + 1; omega) _).setCell (p := ⟨w.heap.size + 1 + 1 + 1, 1, none⟩) (by show _ ≤ w.heap.size + 1 + 1 + 1; omega) _
end Go.Proofs.YtcamcnahkdiefaaGreat

/- Chapter 24: model.Along. -/
namespace Go.Proofs.YtcamcnahkdiefaaGreat
set_option linter.unusedVariables false
set_option linter.unusedSimpArgs false
open Go.RowKit
def ChD.alE (c : ChD) (n : Nat) (l i : Int) : Int := if c.mayM l ≠ 0 then c.mayM l else if i < 0 ∨ ((n + c.th.length : Nat) : Int) ≤ i then 2 else 0
noncomputable def ChD.passAt (c : ChD) (xs : List UInt64) (l : Nat) (i : Int) : DuD := c.dpass (numS (xs ++ c.th) i 0 xs.length) (numS (xs ++ c.th) i xs.length c.th.length) l
noncomputable def ChD.alD (c : ChD) (xs : List UInt64) (l i : Int) : DuD := if c.alE xs.length l i = 0 then c.passAt xs l.toNat i else ⟨0, 0⟩
set_option maxRecDepth 100000 in
set_option maxHeartbeats 1600000 in
theorem Numbers_calls (xa : Option Addr) (xc : Nat) (ta : Option Addr) (tc : Nat) (xs th : List UInt64) (xn tn : Nat) (hxn : xn = xs.length) (htn : tn = th.length) (i : Int) (w : World) (hx : At w xa xs) (ht : At w ta th) :
    Calls Tryz.prog 54 #[.slice xa xn xc, .slice ta tn tc, .int .i64 i] w fun e w' => ∃ g3 g4 g5, e = .returned (numF g3 g4 g5) ∧ NumAt w' g3 g4 g5 xa xc ta tc xs th i ∧ Below w.heap.size w w' := by
  obtain ⟨h1, h2, h3, hb, hz⟩ := three_boxes w 46 46 3 #[.slice xa xn xc] #[.slice ta tn tc] #[.int .i64 i]
  have HN := hide (show NumAt (((w.alloc (.cells #[.slice xa xn xc] 46)).alloc (.cells #[.slice ta tn tc] 46)).alloc (.cells #[.int .i64 i] 3)) w.heap.size (w.heap.size + 1) (w.heap.size + 1 + 1) xa xc ta tc xs th i from ⟨by rw [← hxn]; exact h1, by rw [← htn]; exact h2, h3, hx.belowN hb, ht.belowN hb⟩)
  clear hxn htn
  go_enter Tryz.func54, Tryz.ntmps54
  go_wp2
  go_ret
  exact ⟨_, _, _, rfl, HN.out, hb⟩
set_option maxRecDepth 100000 in
set_option maxHeartbeats 12800000 in
theorem MAlong_good (c : ChD) (hc : c.Ok) (xs : List UInt64) (xn tn ln : Nat) (hxn : xn = xs.length) (hcx : c.x = (xn : Int)) (htn : tn = c.th.length) (hln : ln < 65536) (xa : Option Addr) (xc : Nat) (ta : Option Addr) (tc : Nat) (k : Nat) (hk : k < xn + tn) (w : World) (hx : At w xa xs) (ht : At w ta c.th)
    (hp : At w c.p.a c.p.l) (hpl : c.p.l.length ≤ 1000000) (hq : At w c.q.a c.q.l) (hql : c.q.l.length ≤ 1000000) (hm : c.mayM (ln : Int) = 0) (V D : UInt64) (hV : c.passAt xs ln (k : Int) = ⟨V, D⟩) :
    Calls Tryz.prog 23 #[.agg #[.int .i64 c.p.regs, .slice c.p.a c.p.l.length c.p.c], .agg #[.int .i64 c.q.regs, .slice c.q.a c.q.l.length c.q.c], .slice xa xn xc, .slice ta tn tc, .int .i64 (ln : Int), .int .i64 (k : Int)] w fun e w' => e = .returned (.tuple #[.int .u64 (V.toNat : Int), .int .u64 (D.toNat : Int), .int .i64 0]) ∧ Below w.heap.size w w' := by
  have hx1 := hc.x1
  have hx2 := hc.x2
  have ht2 := hc.t2
  rw [hcx] at hx1 hx2
  rw [← htn] at ht2
  obtain ⟨hX, hY, hb0, hz0⟩ := two_boxes w 24 24 #[.int .i64 c.p.regs, .slice c.p.a c.p.l.length c.p.c] #[.int .i64 c.q.regs, .slice c.q.a c.q.l.length c.q.c]
  obtain ⟨p0, p1, p2, p3⟩ := hX.c2
  obtain ⟨p4, p5, p6, p7⟩ := hY.c2
  have HM := hide (May24M_calls c ta tc (ln : Int) _ (hp.belowN hb0) hpl (hq.belowN hb0) hql (ht.belowN hb0) (by rw [hcx]; omega) (by omega) 0 hm)
  rw [← htn, hcx] at HM
  unfold ChD.passAt at hV
  rw [← hxn, ← htn] at hV
  have HNU := hide (fun (W : World) (hW : Below w.heap.size w W) => Numbers_calls xa xc ta tc xs c.th xn tn hxn htn (k : Int) W (hx.belowN hW) (ht.belowN hW))
  have HPA := hide (fun (W : World) (hW : Below w.heap.size w W) (g3 g4 g5 : Nat) (hN : NumAt W g3 g4 g5 xa xc ta tc xs c.th (k : Int)) => Pass_calls c hc xs xn tn ln hxn hcx htn hln g3 g4 g5 xa xc ta tc (k : Int) W hN (hp.belowN hW) hpl (hq.belowN hW) hql V D hV)
  have d1 : decide ((k : Int) < 0) = false := decide_eq_false (by omega)
  have d2 : ¬ ((xn : Int) + (tn : Int) ≤ (k : Int)) := by omega
  have d3 : decide ((k : Int) ≥ (xn : Int) + (tn : Int)) = false := decide_eq_false (by omega)
  have d4 : decide ((xn : Int) + (tn : Int) ≤ (k : Int)) = false := decide_eq_false (by omega)
  have d5 : decide (xn + tn ≤ k) = false := decide_eq_false (by omega)
  clear hc hxn hcx htn hm hV hk
  go_enter Tryz.func23, Tryz.ntmps23
  go_wp2_with (go_at_call 52; go_must ((with_reducible refine (HM.out).mono ?_); rintro e w1 ⟨rfl, hb1⟩; have hB1 := hb0.trans (hb1.mono hb0.size); obtain ⟨q0, q1, q2, q3⟩ := (hX.belowN hb1).c2; obtain ⟨q4, q5, q6, q7⟩ := (hY.belowN hb1).c2))
  have hX1 := hX.belowN hb1
  have hY1 := hY.belowN hb1
  have hz1 := hB1.size
  have hgX := hX1.lt
  have hgY := hY1.lt
  have hd0 : Below w1.heap.size w1 w1.drew := Below.drew (Below.refl _ _)
  have hdZ : Below w1.heap.size w1 (w1.alloc (.cells #[.int .u64 0, .int .u64 0] 111)).drew := Below.drew (below_box w1 _)
  have hNb : Blk (w1.alloc (.cells #[.int .u64 0, .int .u64 0] 111)).drew w1.heap.size 111 #[.int .u64 0, .int .u64 0] := Blk.new w1 _ _
  have n1 : w1.heap.size ≠ w.heap.size := by omega
  have n2 : w1.heap.size ≠ w.heap.size + 1 := by omega
  have hBd0 := hB1.trans (hd0.mono hz1)
  have hBdZ := hB1.trans (hdZ.mono hz1)
  have HSI : Hid (∀ w4, Below w1.heap.size w1 w4 → (w4.cell? ⟨w.heap.size, 0, none⟩ = some (.int .i64 c.p.regs) ∧ w4.cell? ⟨w.heap.size, 1, none⟩ = some (.slice c.p.a c.p.l.length c.p.c)) ∧ w4.cell? ⟨w.heap.size + 1, 0, none⟩ = some (.int .i64 c.q.regs) ∧ w4.cell? ⟨w.heap.size + 1, 1, none⟩ = some (.slice c.q.a c.q.l.length c.q.c)) := hide (fun w4 h4 => by
    obtain ⟨y0, y1, _⟩ := (hX1.belowN h4).c2
    obtain ⟨y2, y3, _⟩ := (hY1.belowN h4).c2
    exact ⟨⟨y0, y1⟩, y2, y3⟩)
  go_region_held3 (fun w' => (w'.cell? ⟨w.heap.size, 0, none⟩ = some (.int .i64 c.p.regs) ∧ w'.cell? ⟨w.heap.size, 1, none⟩ = some (.slice c.p.a c.p.l.length c.p.c)) ∧ w'.cell? ⟨w.heap.size + 1, 0, none⟩ = some (.int .i64 c.q.regs) ∧ w'.cell? ⟨w.heap.size + 1, 1, none⟩ = some (.slice c.q.a c.q.l.length c.q.c)) (go_keep)
    (first
      | (go_at_call 54; go_must (first
          | ((with_reducible refine (HNU.out _ hBdZ).mono ?_); rintro e w4 ⟨g3, g4, g5, rfl, hNA, hb4⟩; have hB4 := hdZ.trans (hb4.mono hdZ.size); obtain ⟨⟨t0, t1⟩, t2, t3⟩ := HSI.out w4 hB4; have hN4 := hNb.belowN hb4; obtain ⟨u0, u1, u2, u3⟩ := hN4.c2)
          | ((with_reducible refine (HNU.out _ hBd0).mono ?_); rintro e w4 ⟨g3, g4, g5, rfl, hNA, hb4⟩; have hB4 := hd0.trans (hb4.mono hd0.size); obtain ⟨⟨t0, t1⟩, t2, t3⟩ := HSI.out w4 hB4; have n3 : w4.heap.size ≠ w.heap.size := (by have := hB4.size; omega); have n4 : w4.heap.size ≠ w.heap.size + 1 := (by have := hB4.size; omega))))
      | (go_at_call 53; go_must (first
          | ((with_reducible refine (HPA.out w4 (hB1.trans (hB4.mono hz1)) _ _ _ hNA).mono ?_); rintro e w6 ⟨rfl, hb6⟩; have hB6 := hB4.trans (hb6.mono hB4.size); obtain ⟨⟨t0, t1⟩, t2, t3⟩ := HSI.out w6 hB6; (try have hN6 := hN4.belowN hb6); (try obtain ⟨u0, u1, u2, u3⟩ := hN6.c2); have n5 : w6.heap.size ≠ w.heap.size := (by have := hB6.size; omega); have n6 : w6.heap.size ≠ w.heap.size + 1 := (by have := hB6.size; omega))
          | ((with_reducible refine (HPA.out (w4.alloc (.cells #[.int .u64 0, .int .u64 0] 111)) (hB1.trans ((hB4.trans ((below_box w4 (.cells #[.int .u64 0, .int .u64 0] 111)).mono hB4.size)).mono hz1)) _ _ _ (hNA.belowN (below_box w4 (.cells #[.int .u64 0, .int .u64 0] 111)))).mono ?_); rintro e w6 ⟨rfl, hb6⟩; have hB5 := hB4.trans ((below_box w4 (.cells #[.int .u64 0, .int .u64 0] 111)).mono hB4.size); have hB6 := hB5.trans (hb6.mono hB5.size); obtain ⟨⟨t0, t1⟩, t2, t3⟩ := HSI.out w6 hB6; have hN6 := (Blk.new w4 111 #[.int .u64 0, .int .u64 0]).belowN hb6; obtain ⟨u0, u1, u2, u3⟩ := hN6.c2))))
  all_goals
    first
      | (have hF := (hN6.set_ 0 (.int .u64 (V.toNat : Int))).set_ 1 (.int .u64 (D.toNat : Int)))
      | (have hF := Blk.new w6 111 #[.int .u64 (V.toNat : Int), .int .u64 (D.toNat : Int)])
  all_goals have hB7 := hB1.trans (hB6.mono hz1)
  all_goals have hz4 := hB4.size
  all_goals have hz6 := hB7.size
  all_goals obtain ⟨v0, v1, v2, v3⟩ := hF.c2
  all_goals go_wp2
  all_goals go_region
  all_goals go_wp2
  all_goals go_ret3
  all_goals refine ⟨rfl, ?_⟩
  all_goals refine Below.drew ?_
  all_goals
    first
      | exact hB7.alloc hz6 _
      | exact (hB7.setCell (p := ⟨w4.heap.size, 0, none⟩) (by show w.heap.size ≤ w4.heap.size; omega) _).setCell (p := ⟨w4.heap.size, 1, none⟩) (by show w.heap.size ≤ w4.heap.size; omega) _
      | exact (hB7.setCell (p := ⟨w1.heap.size, 0, none⟩) hz1 _).setCell (p := ⟨w1.heap.size, 1, none⟩) hz1 _
set_option maxRecDepth 100000 in
set_option maxHeartbeats 6400000 in
theorem MAlong_bad (c : ChD) (xn tn : Nat) (hcx : c.x = (xn : Int)) (htn : tn = c.th.length) (hxl : xn ≤ 1000000) (htl : tn ≤ 1000000) (l k : Int) (xa : Option Addr) (xc : Nat) (ta : Option Addr) (tc : Nat) (w : World) (ht : At w ta c.th)
    (hp : At w c.p.a c.p.l) (hpl : c.p.l.length ≤ 1000000) (hq : At w c.q.a c.q.l) (hql : c.q.l.length ≤ 1000000) (E : Int) (hE : c.alE xn l k = E) (h0 : E ≠ 0) :
    Calls Tryz.prog 23 #[.agg #[.int .i64 c.p.regs, .slice c.p.a c.p.l.length c.p.c], .agg #[.int .i64 c.q.regs, .slice c.q.a c.q.l.length c.q.c], .slice xa xn xc, .slice ta tn tc, .int .i64 l, .int .i64 k] w fun e w' => e = .returned (.tuple #[.int .u64 0, .int .u64 0, .int .i64 E]) ∧ Below w.heap.size w w' := by
  obtain ⟨hX, hY, hb0, hz0⟩ := two_boxes w 24 24 #[.int .i64 c.p.regs, .slice c.p.a c.p.l.length c.p.c] #[.int .i64 c.q.regs, .slice c.q.a c.q.l.length c.q.c]
  obtain ⟨p0, p1, p2, p3⟩ := hX.c2
  obtain ⟨p4, p5, p6, p7⟩ := hY.c2
  obtain ⟨M, hM⟩ : ∃ M, c.mayM l = M := ⟨_, rfl⟩
  have HM := hide (May24M_calls c ta tc l _ (hp.belowN hb0) hpl (hq.belowN hb0) hql (ht.belowN hb0) (by rw [hcx]; omega) (by omega) M hM)
  rw [← htn, hcx] at HM
  unfold ChD.alE at hE
  rw [hM, ← htn] at hE
  by_cases hM0 : M ≠ 0
  · rw [if_pos hM0] at hE
    subst hE
    have e1 : (M == 0) = false := by simpa using hM0
    have e2 : (M != 0) = true := by simpa using hM0
    clear hM0 hM h0 hcx htn
    go_enter Tryz.func23, Tryz.ntmps23
    go_wp2_with (go_at_call 52; go_must ((with_reducible refine (HM.out).mono ?_); rintro e w1 ⟨rfl, hb1⟩))
    go_ret3
    exact ⟨rfl, hb0.trans (hb1.mono hb0.size)⟩
  · rw [if_neg hM0] at hE
    obtain rfl : M = 0 := Decidable.not_not.1 hM0
    by_cases hk : k < 0 ∨ ((xn + tn : Nat) : Int) ≤ k
    · rw [if_pos hk] at hE
      subst hE
      clear hM0 hM h0 hcx htn
      by_cases h1 : k < 0
      · go_enter Tryz.func23, Tryz.ntmps23
        go_wp2_with (go_at_call 52; go_must ((with_reducible refine (HM.out).mono ?_); rintro e w1 ⟨rfl, hb1⟩))
        go_ret3
        exact ⟨rfl, hb0.trans (hb1.mono hb0.size)⟩
      · have h2 : (xn : Int) + (tn : Int) ≤ k := by omega
        have d3 : decide (k ≥ (xn : Int) + (tn : Int)) = true := decide_eq_true h2
        clear hk
        go_enter Tryz.func23, Tryz.ntmps23
        go_wp2_with (go_at_call 52; go_must ((with_reducible refine (HM.out).mono ?_); rintro e w1 ⟨rfl, hb1⟩))
        go_ret3
        exact ⟨rfl, hb0.trans (hb1.mono hb0.size)⟩
    · rw [if_neg hk] at hE
      exact absurd hE.symm h0
theorem MAlong_calls (c : ChD) (xs : List UInt64) (xn tn : Nat) (hxn : xn = xs.length) (hcx : c.x = (xn : Int)) (htn : tn = c.th.length) (hxl : xn ≤ 1000000) (htl : tn ≤ 1000000) (l k : Int) (xa : Option Addr) (xc : Nat) (ta : Option Addr) (tc : Nat) (w : World) (hx : At w xa xs) (ht : At w ta c.th)
    (hp : At w c.p.a c.p.l) (hpl : c.p.l.length ≤ 1000000) (hq : At w c.q.a c.q.l) (hql : c.q.l.length ≤ 1000000) (V D : UInt64) (E : Int) (hV : c.alD xs l k = ⟨V, D⟩) (hE : c.alE xn l k = E) :
    Calls Tryz.prog 23 #[.agg #[.int .i64 c.p.regs, .slice c.p.a c.p.l.length c.p.c], .agg #[.int .i64 c.q.regs, .slice c.q.a c.q.l.length c.q.c], .slice xa xn xc, .slice ta tn tc, .int .i64 l, .int .i64 k] w fun e w' => e = .returned (.tuple #[.int .u64 (V.toNat : Int), .int .u64 (D.toNat : Int), .int .i64 E]) ∧ Below w.heap.size w w' := by
  by_cases h0 : E = 0
  · subst h0
    unfold ChD.alD at hV
    rw [← hxn, if_pos hE] at hV
    unfold ChD.alE at hE
    split at hE
    · rename_i h1; exact absurd hE h1
    · rename_i h1
      split at hE
      · cases hE
      · rename_i h2
        rw [← htn] at h2
        have hm : c.mayM l = 0 := Decidable.not_not.1 h1
        obtain ⟨hc, l1, l2⟩ := ChD.mayM_ok hm
        obtain ⟨ln, rfl⟩ : ∃ n : Nat, l = n := ⟨l.toNat, by omega⟩
        obtain ⟨kn, rfl⟩ : ∃ n : Nat, k = n := ⟨k.toNat, by omega⟩
        rw [Int.toNat_natCast] at hV
        exact MAlong_good c hc xs xn tn ln hxn hcx htn (by omega) xa xc ta tc kn (by omega) w hx ht hp hpl hq hql hm V D hV
  · unfold ChD.alD at hV
    rw [← hxn, hE, if_neg h0] at hV
    injection hV with h1 h2
    subst h1 h2
    exact MAlong_bad c xn tn hcx htn hxl htl l k xa xc ta tc w ht hp hpl hq hql E hE h0
end Go.Proofs.YtcamcnahkdiefaaGreat

/- Chapter 24: the document's Gradient. -/
namespace Go.Proofs.YtcamcnahkdiefaaGreat
set_option linter.unusedVariables false
set_option linter.unusedSimpArgs false
open Go.RowKit
noncomputable def ChD.gradL (c : ChD) (xs : List UInt64) (l a k : Nat) : List UInt64 := (List.range k).map fun j => (c.passAt xs l ((a + j : Nat) : Int)).d
theorem ChD.gradL_succ (c : ChD) (xs : List UInt64) (l a k : Nat) : c.gradL xs l a (k + 1) = c.gradL xs l a k ++ [(c.passAt xs l ((a + k : Nat) : Int)).d] := by
  unfold ChD.gradL; rw [List.range_succ, List.map_append]; rfl
theorem ChD.gradL_len (c : ChD) (xs : List UInt64) (l a k : Nat) : (c.gradL xs l a k).length = k := by unfold ChD.gradL; simp
noncomputable def ChD.gradV (c : ChD) (xs : List UInt64) (l k : Nat) : UInt64 := if k = 0 then 0 else (c.passAt xs l ((k - 1 : Nat) : Int)).v
structure GrH (T E : TypeId) (w : World) (g : Nat) (V : UInt64) (nx : Nat) (ax : Option Addr) (cx nt : Nat) (at_ : Option Addr) (ct Bt : Nat) (LX LT : List UInt64) : Prop where
  blk : Blk w g T #[.int .u64 (V.toNat : Int), .slice ax nx cx, .slice at_ nt ct]
  nx : nx = LX.length
  nt : nt = LT.length
  x : Own w (g + 1) E ax cx LX
  t : Own w Bt E at_ ct LT
  b1 : g + 1 ≤ Bt
  b2 : Bt ≤ w.heap.size
  lt : ∀ k, ax.map (·.block) = some k → k < Bt
theorem GrH.keep {T E : TypeId} {w w' : World} {g : Nat} {V : UInt64} {nx : Nat} {ax : Option Addr} {cx nt : Nat} {at_ : Option Addr} {ct Bt : Nat} {LX LT : List UInt64} (h : GrH T E w g V nx ax cx nt at_ ct Bt LX LT) (hb : Below w.heap.size w w') : GrH T E w' g V nx ax cx nt at_ ct Bt LX LT :=
  ⟨h.blk.belowN hb, h.nx, h.nt, h.x.belowN hb, h.t.belowN hb, h.b1, Nat.le_trans h.b2 hb.size, h.lt⟩
theorem GrH.setV {T E : TypeId} {w : World} {g : Nat} {V : UInt64} {nx : Nat} {ax : Option Addr} {cx nt : Nat} {at_ : Option Addr} {ct Bt : Nat} {LX LT : List UInt64} (h : GrH T E w g V nx ax cx nt at_ ct Bt LX LT) (V' : UInt64) : GrH T E (w.setCell ⟨g, 0, none⟩ (.int .u64 (V'.toNat : Int))) g V' nx ax cx nt at_ ct Bt LX LT :=
  ⟨h.blk.set_ 0 _, h.nx, h.nt, h.x.setCell (p := ⟨g, 0, none⟩) (Nat.lt_succ_self g) _, h.t.setCell (p := ⟨g, 0, none⟩) h.b1 _, h.b1, by have := h.b2; simp; omega, h.lt⟩
theorem GrH.blkX {T E : TypeId} {w w' : World} {g : Nat} {V : UInt64} {nx : Nat} {ax : Option Addr} {cx nt : Nat} {at_ : Option Addr} {ct Bt : Nat} {LX LT : List UInt64} (h : GrH T E w g V nx ax cx nt at_ ct Bt LX LT) (hg : w.grownBy w' (ax.map (·.block))) : Blk w' g T #[.int .u64 (V.toNat : Int), .slice ax nx cx, .slice at_ nt ct] :=
  h.blk.grown hg fun e => by have := (h.x.blk g e.symm).1; omega
theorem GrH.blkT {T E : TypeId} {w w' : World} {g : Nat} {V : UInt64} {nx : Nat} {ax : Option Addr} {cx nt : Nat} {at_ : Option Addr} {ct Bt : Nat} {LX LT : List UInt64} (h : GrH T E w g V nx ax cx nt at_ ct Bt LX LT) (hg : w.grownBy w' (at_.map (·.block))) : Blk w' g T #[.int .u64 (V.toNat : Int), .slice ax nx cx, .slice at_ nt ct] :=
  h.blk.grown hg fun e => by have := (h.t.blk g e.symm).1; have := h.b1; omega
theorem GrH.pushX {T E : TypeId} {w w' : World} {g : Nat} {V : UInt64} {nx : Nat} {ax : Option Addr} {cx Bt : Nat} {LX : List UInt64} (h : GrH T E w g V nx ax cx 0 none 0 Bt LX []) {a' : Option Addr} {c' : Nat} {D : UInt64} (hown : Own w' (g + 1) E a' c' (LX ++ [D])) (hg : w.grownBy w' (ax.map (·.block))) :
    GrH T E (w'.setCell ⟨g, 1, none⟩ (.slice a' (nx + 1) c')) g V (nx + 1) a' c' 0 none 0 w'.heap.size (LX ++ [D]) [] :=
  ⟨(h.blkX hg).set_ 1 _, by have := h.nx; simp; omega, rfl, hown.setCell (p := ⟨g, 1, none⟩) (Nat.lt_succ_self g) _, Own.none _ _ _, (h.blkX hg).lt, by simp, fun k hk => (hown.blk k hk).2⟩
theorem GrH.pushT {T E : TypeId} {w w' : World} {g : Nat} {V : UInt64} {nx : Nat} {ax : Option Addr} {cx nt : Nat} {at_ : Option Addr} {ct Bt : Nat} {LX LT : List UInt64} (h : GrH T E w g V nx ax cx nt at_ ct Bt LX LT) {a' : Option Addr} {c' : Nat} {D : UInt64} (hown : Own w' Bt E a' c' (LT ++ [D])) (hg : w.grownBy w' (at_.map (·.block))) :
    GrH T E (w'.setCell ⟨g, 2, none⟩ (.slice a' (nt + 1) c')) g V nx ax cx (nt + 1) a' c' Bt LX (LT ++ [D]) := by
  have hx : Own w' (g + 1) E ax cx LX := h.x.grown hg (by
    cases ha : ax with
    | none => exact .inl rfl
    | some p => exact .inr fun e => by have h1 := (h.t.blk p.block e.symm).1; have h2 := h.lt p.block (by rw [ha]; rfl); omega)
  exact ⟨(h.blkT hg).set_ 2 _, h.nx, by have := h.nt; simp; omega, hx.setCell (p := ⟨g, 2, none⟩) (Nat.lt_succ_self g) _, hown.setCell (p := ⟨g, 2, none⟩) h.b1 _, h.b1, by have := h.b2; have := hg.size; simp; omega, h.lt⟩
noncomputable def ChD.gV (c : ChD) (xs : List UInt64) (l : Int) : UInt64 := if c.mayM l = 0 then c.gradV xs l.toNat (xs.length + c.th.length) else 0
noncomputable def ChD.gX (c : ChD) (xs : List UInt64) (l : Int) : List UInt64 := if c.mayM l = 0 then c.gradL xs l.toNat 0 xs.length else []
noncomputable def ChD.gT (c : ChD) (xs : List UInt64) (l : Int) : List UInt64 := if c.mayM l = 0 then c.gradL xs l.toNat xs.length c.th.length else []
def GradOut (E : TypeId) (B : Nat) (V : UInt64) (LX LT : List UInt64) (er : Int) (w0 : World) (e : Ending) (w' : World) : Prop :=
  ∃ a1 n1 c1 a2 n2 c2, e = .returned (.tuple #[.agg #[.int .u64 (V.toNat : Int), .slice a1 n1 c1, .slice a2 n2 c2], .int .i64 er]) ∧ n1 = LX.length ∧ n2 = LT.length ∧ Own w' B E a1 c1 LX ∧ Own w' B E a2 c2 LT ∧ Below B w0 w'
end Go.Proofs.YtcamcnahkdiefaaGreat

/- Chapter 24: model.Gradient. -/
namespace Go.Proofs.YtcamcnahkdiefaaGreat
set_option linter.unusedVariables false
set_option linter.unusedSimpArgs false
open Go.RowKit
theorem blk_two {w0 w : World} {g : Nat} {T : TypeId} {cs : Array Value} (hB : Below w0.heap.size w0 w) (h : Blk w g T cs) (hg : w0.heap.size ≤ g) (u v : Value) : Blk ((w.setCell ⟨g, 0, none⟩ u).setCell ⟨g, 1, none⟩ v) g T ((cs.setIfInBounds 0 u).setIfInBounds 1 v) ∧ Below w0.heap.size w0 ((w.setCell ⟨g, 0, none⟩ u).setCell ⟨g, 1, none⟩ v) :=
  ⟨(h.set_ 0 u).set_ 1 v, (hB.setCell (p := ⟨g, 0, none⟩) hg u).setCell (p := ⟨g, 1, none⟩) hg v⟩
theorem blk_one {w0 w : World} {T : TypeId} {cs : Array Value} (hB : Below w0.heap.size w0 w) : Blk (w.alloc (.cells cs T)) w.heap.size T cs ∧ Below w0.heap.size w0 (w.alloc (.cells cs T)) :=
  ⟨Blk.new w T cs, hB.alloc hB.size _⟩
set_option maxRecDepth 100000 in
set_option maxHeartbeats 12800000 in
theorem MGrad_good (c : ChD) (hc : c.Ok) (xs : List UInt64) (xn tn ln : Nat) (hxn : xn = xs.length) (hcx : c.x = (xn : Int)) (htn : tn = c.th.length) (hln : ln < 65536) (xa : Option Addr) (xc : Nat) (ta : Option Addr) (tc : Nat) (w : World) (hx : At w xa xs) (ht : At w ta c.th)
    (hp : At w c.p.a c.p.l) (hpl : c.p.l.length ≤ 1000000) (hq : At w c.q.a c.q.l) (hql : c.q.l.length ≤ 1000000) (hm : c.mayM (ln : Int) = 0) :
    Calls Tryz.prog 25 #[.agg #[.int .i64 c.p.regs, .slice c.p.a c.p.l.length c.p.c], .agg #[.int .i64 c.q.regs, .slice c.q.a c.q.l.length c.q.c], .slice xa xn xc, .slice ta tn tc, .int .i64 (ln : Int)] w fun e w' => ∃ a1 c1 a2 c2, e = .returned (.tuple #[.agg #[.int .u64 ((c.gradV xs ln (xn + tn)).toNat : Int), .slice a1 xn c1, .slice a2 tn c2], .int .i64 0]) ∧ Own w' w.heap.size 50 a1 c1 (c.gradL xs ln 0 xn) ∧ Own w' w.heap.size 50 a2 c2 (c.gradL xs ln xn tn) ∧ Below w.heap.size w w' := by
  have hx1 := hc.x1
  have hx2 := hc.x2
  have ht2 := hc.t2
  rw [hcx] at hx1 hx2
  rw [← htn] at ht2
  obtain ⟨hX, hY, hR, hb0, hz0⟩ := three_boxes w 24 24 56 #[.int .i64 c.p.regs, .slice c.p.a c.p.l.length c.p.c] #[.int .i64 c.q.regs, .slice c.q.a c.q.l.length c.q.c] #[.int .u64 0, .slice none 0 0, .slice none 0 0]
  obtain ⟨p0, p1, p2, p3⟩ := hX.c2
  obtain ⟨p4, p5, p6, p7⟩ := hY.c2
  have HM := hide (May24M_calls c ta tc (ln : Int) _ (hp.belowN hb0) hpl (hq.belowN hb0) hql (ht.belowN hb0) (by rw [hcx]; omega) (by omega) 0 hm)
  rw [← htn, hcx] at HM
  have HNU := hide (fun (k : Nat) (W : World) (hW : Below w.heap.size w W) => Numbers_calls xa xc ta tc xs c.th xn tn hxn htn (k : Int) W (hx.belowN hW) (ht.belowN hW))
  have HPA := hide (fun (k : Nat) (V D : UInt64) (hV : c.passAt xs ln (k : Int) = ⟨V, D⟩) (W : World) (hW : Below w.heap.size w W) (g3 g4 g5 : Nat) (hN : NumAt W g3 g4 g5 xa xc ta tc xs c.th (k : Int)) => Pass_calls c hc xs xn tn ln hxn hcx htn hln g3 g4 g5 xa xc ta tc (k : Int) W hN (hp.belowN hW) hpl (hq.belowN hW) hql V D (by unfold ChD.passAt at hV; rw [← hxn, ← htn] at hV; exact hV))
  clear hc hxn hcx htn hm
  go_enter Tryz.func25, Tryz.ntmps25
  go_wp2_with (go_at_call 52; go_must ((with_reducible refine (HM.out).mono ?_); rintro e w1 ⟨rfl, hb1⟩; have hB1 := hb0.trans (hb1.mono hb0.size)))
  have hz1 := hB1.size
  have hR1 := hR.belowN hb1
  have hgR := hR1.lt
  have hBG : Below w1.heap.size w1 (w1.alloc (.cells #[.int .u64 0, .slice none 0 0, .slice none 0 0] 56)) := below_box w1 _
  go_loopw [32] (fun iv wr => ∃ (i : Nat) (ax : Option Addr) (cx : Nat) (at_ : Option Addr) (ct Bt : Nat), iv = .int .i64 i ∧ i ≤ xn + tn ∧ GrH 56 50 wr w1.heap.size (c.gradV xs ln i) (min i xn) ax cx (i - xn) at_ ct Bt (c.gradL xs ln 0 (min i xn)) (c.gradL xs ln xn (i - xn)) ∧ (i ≤ xn → at_ = none ∧ ct = 0) ∧ Below w1.heap.size w1 wr) (fun iv _ => xn + tn - (intOf iv).toNat)
  case atStart =>
    refine ⟨0, none, 0, none, 0, (w1.heap.size + 1), rfl, by omega, ?_, fun _ => ⟨rfl, rfl⟩, hBG⟩
    rw [Nat.zero_min, Nat.zero_sub]
    exact ⟨Blk.new w1 _ _, rfl, rfl, Own.none _ _ _, Own.none _ _ _, Nat.le_refl _, by simp, fun k hk => by cases hk⟩
  case round =>
    obtain ⟨i, ax, cx, at_, ct, Bt, rfl, hi, hG, hat, hb3⟩ := hrel
    have hz3 := hb3.size
    obtain ⟨c0, c1, c2, f0, f1, f2⟩ := hG.blk.c3
    by_cases hlt : i < xn + tn
    · obtain ⟨⟨V, D⟩, hV⟩ : ∃ x, c.passAt xs ln (i : Int) = x := ⟨_, rfl⟩
      have hBw := hB1.trans (hb3.mono hz1)
      have hzw := hBw.size
      have HNUi := hide (HNU.out i)
      have HPAi := hide (HPA.out i V D hV)
      have hVi : c.gradV xs ln (i + 1) = V := by
        unfold ChD.gradV
        rw [if_neg (by omega), Nat.add_sub_cancel, hV]
      obtain ⟨p0, p1, p2, p3⟩ := (hX.belowN (hb1.trans (hb3.mono hb1.size))).c2
      obtain ⟨p4, p5, p6, p7⟩ := (hY.belowN (hb1.trans (hb3.mono hb1.size))).c2
      have HVV := hide hV
      clear hV
      go_wp2
      have hX1 := hX.belowN (hb1.trans (hb3.mono hb1.size))
      have hY1 := hY.belowN (hb1.trans (hb3.mono hb1.size))
      have hgX := hX1.lt
      have hgY := hY1.lt
      have hd0 : Below wr.heap.size wr wr.drew := Below.drew (Below.refl _ _)
      have hdZ : Below wr.heap.size wr (wr.alloc (.cells #[.int .u64 0, .int .u64 0] 111)).drew := Below.drew (below_box wr _)
      have hNb : Blk (wr.alloc (.cells #[.int .u64 0, .int .u64 0] 111)).drew wr.heap.size 111 #[.int .u64 0, .int .u64 0] := Blk.new wr _ _
      have n1 : wr.heap.size ≠ w.heap.size := by omega
      have n2 : wr.heap.size ≠ w.heap.size + 1 := by omega
      have hBd0 := hBw.trans (hd0.mono hzw)
      have hBdZ := hBw.trans (hdZ.mono hzw)
      have HSI : Hid (∀ w4, Below wr.heap.size wr w4 → (w4.cell? ⟨w.heap.size, 0, none⟩ = some (.int .i64 c.p.regs) ∧ w4.cell? ⟨w.heap.size, 1, none⟩ = some (.slice c.p.a c.p.l.length c.p.c)) ∧ w4.cell? ⟨w.heap.size + 1, 0, none⟩ = some (.int .i64 c.q.regs) ∧ w4.cell? ⟨w.heap.size + 1, 1, none⟩ = some (.slice c.q.a c.q.l.length c.q.c)) := hide (fun w4 h4 => by
        obtain ⟨y0, y1, _⟩ := (hX1.belowN h4).c2
        obtain ⟨y2, y3, _⟩ := (hY1.belowN h4).c2
        exact ⟨⟨y0, y1⟩, y2, y3⟩)
      go_region_held3 (fun w' => (w'.cell? ⟨w.heap.size, 0, none⟩ = some (.int .i64 c.p.regs) ∧ w'.cell? ⟨w.heap.size, 1, none⟩ = some (.slice c.p.a c.p.l.length c.p.c)) ∧ w'.cell? ⟨w.heap.size + 1, 0, none⟩ = some (.int .i64 c.q.regs) ∧ w'.cell? ⟨w.heap.size + 1, 1, none⟩ = some (.slice c.q.a c.q.l.length c.q.c)) (go_keep)
        (first
          | (go_at_call 54; go_must (first
              | ((with_reducible refine (HNUi.out _ hBdZ).mono ?_); rintro e w4 ⟨g3, g4, g5, rfl, hNA, hb4⟩; have hB4 := hdZ.trans (hb4.mono hdZ.size); obtain ⟨⟨t0, t1⟩, t2, t3⟩ := HSI.out w4 hB4; have hN4 := hNb.belowN hb4; obtain ⟨u0, u1, u2, u3⟩ := hN4.c2)
              | ((with_reducible refine (HNUi.out _ hBd0).mono ?_); rintro e w4 ⟨g3, g4, g5, rfl, hNA, hb4⟩; have hB4 := hd0.trans (hb4.mono hd0.size); obtain ⟨⟨t0, t1⟩, t2, t3⟩ := HSI.out w4 hB4; have n3 : w4.heap.size ≠ w.heap.size := (by have := hB4.size; omega); have n4 : w4.heap.size ≠ w.heap.size + 1 := (by have := hB4.size; omega))))
          | (go_at_call 53; go_must (first
              | ((with_reducible refine (HPAi.out w4 (hBw.trans (hB4.mono hzw)) _ _ _ hNA).mono ?_); rintro e w6 ⟨rfl, hb6⟩; have hB6 := hB4.trans (hb6.mono hB4.size); obtain ⟨⟨t0, t1⟩, t2, t3⟩ := HSI.out w6 hB6; (try have hN6 := hN4.belowN hb6); (try obtain ⟨u0, u1, u2, u3⟩ := hN6.c2); have n5 : w6.heap.size ≠ w.heap.size := (by have := hB6.size; omega); have n6 : w6.heap.size ≠ w.heap.size + 1 := (by have := hB6.size; omega))
              | ((with_reducible refine (HPAi.out (w4.alloc (.cells #[.int .u64 0, .int .u64 0] 111)) (hBw.trans ((hB4.trans ((below_box w4 (.cells #[.int .u64 0, .int .u64 0] 111)).mono hB4.size)).mono hzw)) _ _ _ (hNA.belowN (below_box w4 (.cells #[.int .u64 0, .int .u64 0] 111)))).mono ?_); rintro e w6 ⟨rfl, hb6⟩; have hB5 := hB4.trans ((below_box w4 (.cells #[.int .u64 0, .int .u64 0] 111)).mono hB4.size); have hB6 := hB5.trans (hb6.mono hB5.size); obtain ⟨⟨t0, t1⟩, t2, t3⟩ := HSI.out w6 hB6; have hN6 := (Blk.new w4 111 #[.int .u64 0, .int .u64 0]).belowN hb6; obtain ⟨u0, u1, u2, u3⟩ := hN6.c2))))
      all_goals first
        | (have hF0 := hN6.lt; have hz4 := hB4.size; have hFB := blk_two hB6 hN6 (by first | exact Nat.le_refl _ | assumption | omega) (.int .u64 (V.toNat : Int)) (.int .u64 (D.toNat : Int)))
        | have hFB := blk_one (T := 111) (cs := #[.int .u64 (V.toNat : Int), .int .u64 (D.toNat : Int)]) hB6
      all_goals obtain ⟨hF, hB7⟩ := hFB
      all_goals have hz7 := hB7.size
      all_goals have hG7 := hG.keep hB7
      all_goals have hG8 := hG7.setV V
      all_goals obtain ⟨v0, v1, v2, v3⟩ := hF.c2
      all_goals obtain ⟨c0, c1, c2, f0, f1, f2⟩ := hG7.blk.c3
      all_goals have n8 : wr.heap.size ≠ w1.heap.size := (by have := hG.blk.lt; omega)
      all_goals have n9 : w1.heap.size ≠ wr.heap.size := (by have := hG.blk.lt; omega)
      all_goals have n10 : w4.heap.size ≠ w1.heap.size := (by have := hG.blk.lt; have := hB4.size; omega)
      all_goals have n11 : w1.heap.size ≠ w4.heap.size := (by have := hG.blk.lt; have := hB4.size; omega)
      all_goals have n12 : w6.heap.size ≠ w1.heap.size := (by have := hG.blk.lt; have := hB6.size; omega)
      all_goals have n13 : w1.heap.size ≠ w6.heap.size := (by have := hG.blk.lt; have := hB6.size; omega)
      all_goals have hb37 := hb3.trans (hB7.mono hz3)
      all_goals clear hb3 hBw HNUi HPAi HSI
      all_goals
        by_cases hix : i < xn
        · obtain ⟨rfl, rfl⟩ := hat (by omega)
          have hT : c.gradL xs ln 0 (i + 1) = c.gradL xs ln 0 i ++ [D] := by rw [ChD.gradL_succ, Nat.zero_add, HVV.out]
          have m1 : min i xn = i := by omega
          have m2 : i - xn = 0 := by omega
          rw [m1, m2] at hG7 hG8
          rw [m1] at c1
          rw [m2] at c2
          obtain ⟨LX, hLX⟩ : ∃ l, c.gradL xs ln 0 i = l := ⟨_, rfl⟩
          rw [hLX] at hG7 hG8 hT
          clear hG hLX hat
          go_wp2_with (at_builtin; go_must (refine wpList_push tyU hG8.x D rfl rfl rfl rfl rfl (by simp) hG8.nx (by have := hG8.blk.lt; omega) (by omega) ?_; intro a6 c6 w8 hown6 hg6 hcs6; have h6 := hG8.pushX hown6 hg6; obtain ⟨c0, c1, c2, f0, f1, f2⟩ := (hG8.blkX hg6).c3))
          go_roundw
          case rel =>
            refine ⟨i + 1, a6, c6, none, 0, w8.heap.size, by go_num, by omega, ?_, fun _ => ⟨rfl, rfl⟩, ?_⟩
            · rw [hVi, show min (i + 1) xn = i + 1 by omega, show i + 1 - xn = 0 by omega, hT]
              exact h6
            · exact ((below_push (hb37.setCell (p := ⟨w1.heap.size, 0, none⟩) (Nat.le_refl _) _) (hG8.x.mono (Nat.le_succ _)) hg6 (by have := hG8.blk.lt; omega)).setCell (p := ⟨w1.heap.size, 1, none⟩) (Nat.le_refl _) _)
          case measure => simp [intOf] <;> omega
        · obtain ⟨m, m2⟩ : ∃ m, i - xn = m := ⟨_, rfl⟩
          have hT : c.gradL xs ln xn (m + 1) = c.gradL xs ln xn m ++ [D] := by rw [ChD.gradL_succ, show xn + m = i by omega, HVV.out]
          have m1 : min i xn = xn := by omega
          rw [m1, m2] at hG7 hG8
          rw [m1] at c1
          rw [m2] at c2
          obtain ⟨LX, hLX⟩ : ∃ l, c.gradL xs ln 0 xn = l := ⟨_, rfl⟩
          obtain ⟨LT, hLT⟩ : ∃ l, c.gradL xs ln xn m = l := ⟨_, rfl⟩
          rw [hLX, hLT] at hG7 hG8
          rw [hLT] at hT
          have d1 : decide (i < xn) = false := decide_eq_false hix
          have d2 : decide ((i : Int) < (xn : Int)) = false := decide_eq_false (by omega)
          clear hG hLT hat
          go_wp2_with (at_builtin; go_must (refine wpList_push tyU hG8.t D rfl rfl rfl rfl rfl (by simp) hG8.nt hG8.b2 (by omega) ?_; intro a6 c6 w8 hown6 hg6 hcs6; have h6 := hG8.pushT hown6 hg6; obtain ⟨c0, c1, c2, f0, f1, f2⟩ := (hG8.blkT hg6).c3))
          go_roundw
          case rel =>
            refine ⟨i + 1, ax, cx, a6, c6, Bt, by go_num, by omega, ?_, fun h => absurd h (by omega), ?_⟩
            · rw [hVi, show min (i + 1) xn = xn by omega, show i + 1 - xn = m + 1 by omega, hT, hLX]
              exact h6
            · exact ((below_push (hb37.setCell (p := ⟨w1.heap.size, 0, none⟩) (Nat.le_refl _) _) (hG8.t.mono (Nat.le_of_succ_le hG8.b1)) hg6 (by have := hG8.blk.lt; omega)).setCell (p := ⟨w1.heap.size, 2, none⟩) (Nat.le_refl _) _)
          case measure => simp [intOf] <;> omega
    · have hin : i = xn + tn := by omega
      subst hin
      rw [show min (xn + tn) xn = xn by omega, show xn + tn - xn = tn by omega] at hG
      rw [show min (xn + tn) xn = xn by omega] at c1
      rw [show xn + tn - xn = tn by omega] at c2
      have hF0 := hR1.belowN (hb3.mono (Nat.le_refl _))
      obtain ⟨r0, r1, r2, r3, r4, r5⟩ := hF0.c3
      clear hat
      go_wp2
      have hF := ((hF0.set_ 0 (.int .u64 ((c.gradV xs ln (xn + tn)).toNat : Int))).set_ 1 (.slice ax xn cx)).set_ 2 (.slice at_ tn ct)
      have hq1 : w.heap.size + 1 + 1 < w1.heap.size + 1 := by omega
      have hq2 : w.heap.size + 1 + 1 < Bt := by have := hG.b1; omega
      have hq3 : w.heap.size ≤ w.heap.size + 1 + 1 := by omega
      refine bodyPost_ret (results_rowP rfl _ _ (w.heap.size + 1 + 1) _ #[.int .u64 ((c.gradV xs ln (xn + tn)).toNat : Int), .slice ax xn cx, .slice at_ tn ct] (0, 0) _ rfl hF Tryz.underlying56 rfl (by kernel_rfl)) rfl ⟨ax, cx, at_, ct, rfl, ?_, ?_, ?_⟩
      · exact (((hG.x.setCell (p := ⟨w.heap.size + 1 + 1, 0, none⟩) hq1 _).setCell (p := ⟨w.heap.size + 1 + 1, 1, none⟩) hq1 _).setCell (p := ⟨w.heap.size + 1 + 1, 2, none⟩) hq1 _).mono (by omega)
      · have hBt := hG.b1
        exact (((hG.t.setCell (p := ⟨w.heap.size + 1 + 1, 0, none⟩) hq2 _).setCell (p := ⟨w.heap.size + 1 + 1, 1, none⟩) hq2 _).setCell (p := ⟨w.heap.size + 1 + 1, 2, none⟩) hq2 _).mono (by omega)
      · exact (((hB1.trans (hb3.mono hz1)).setCell (p := ⟨w.heap.size + 1 + 1, 0, none⟩) hq3 _).setCell (p := ⟨w.heap.size + 1 + 1, 1, none⟩) hq3 _).setCell (p := ⟨w.heap.size + 1 + 1, 2, none⟩) hq3 _
set_option maxRecDepth 100000 in
set_option maxHeartbeats 3200000 in
theorem MGrad_bad (c : ChD) (xn tn : Nat) (hcx : c.x = (xn : Int)) (htn : tn = c.th.length) (hxl : xn ≤ 1000000) (htl : tn ≤ 1000000) (l : Int) (xa : Option Addr) (xc : Nat) (ta : Option Addr) (tc : Nat) (w : World) (ht : At w ta c.th)
    (hp : At w c.p.a c.p.l) (hpl : c.p.l.length ≤ 1000000) (hq : At w c.q.a c.q.l) (hql : c.q.l.length ≤ 1000000) (E : Int) (hE : c.mayM l = E) (h0 : E ≠ 0) :
    Calls Tryz.prog 25 #[.agg #[.int .i64 c.p.regs, .slice c.p.a c.p.l.length c.p.c], .agg #[.int .i64 c.q.regs, .slice c.q.a c.q.l.length c.q.c], .slice xa xn xc, .slice ta tn tc, .int .i64 l] w (GradOut 50 w.heap.size 0 [] [] E w) := by
  obtain ⟨hX, hY, hR, hb0, hz0⟩ := three_boxes w 24 24 56 #[.int .i64 c.p.regs, .slice c.p.a c.p.l.length c.p.c] #[.int .i64 c.q.regs, .slice c.q.a c.q.l.length c.q.c] #[.int .u64 0, .slice none 0 0, .slice none 0 0]
  obtain ⟨p0, p1, p2, p3⟩ := hX.c2
  obtain ⟨p4, p5, p6, p7⟩ := hY.c2
  have HM := hide (May24M_calls c ta tc l _ (hp.belowN hb0) hpl (hq.belowN hb0) hql (ht.belowN hb0) (by rw [hcx]; omega) (by omega) E hE)
  rw [← htn, hcx] at HM
  have e1 : (E == 0) = false := by simpa using h0
  have e2 : (E != 0) = true := by simpa using h0
  clear hE h0 hcx htn
  go_enter Tryz.func25, Tryz.ntmps25
  go_wp2_with (go_at_call 52; go_must ((with_reducible refine (HM.out).mono ?_); rintro e w1 ⟨rfl, hb1⟩; obtain ⟨r0, r1, r2, r3, r4, r5⟩ := (hR.belowN hb1).c3))
  have hB1 := hb0.trans (hb1.mono hb0.size)
  have hF := (((hR.belowN hb1).set_ 0 (.int .u64 0)).set_ 1 (.slice none 0 0)).set_ 2 (.slice none 0 0)
  have hq3 : w.heap.size ≤ w.heap.size + 1 + 1 := by omega
  refine bodyPost_ret (results_rowP rfl _ _ (w.heap.size + 1 + 1) _ #[.int .u64 0, .slice none 0 0, .slice none 0 0] (0, 0) _ rfl hF Tryz.underlying56 rfl (by kernel_rfl)) rfl ⟨none, 0, 0, none, 0, 0, rfl, rfl, rfl, Own.none _ _ _, Own.none _ _ _, ?_⟩
  exact ((hB1.setCell (p := ⟨w.heap.size + 1 + 1, 0, none⟩) hq3 _).setCell (p := ⟨w.heap.size + 1 + 1, 1, none⟩) hq3 _).setCell (p := ⟨w.heap.size + 1 + 1, 2, none⟩) hq3 _
theorem MGrad_calls (c : ChD) (xs : List UInt64) (xn tn : Nat) (hxn : xn = xs.length) (hcx : c.x = (xn : Int)) (htn : tn = c.th.length) (hxl : xn ≤ 1000000) (htl : tn ≤ 1000000) (l : Int) (xa : Option Addr) (xc : Nat) (ta : Option Addr) (tc : Nat) (w : World) (hx : At w xa xs) (ht : At w ta c.th)
    (hp : At w c.p.a c.p.l) (hpl : c.p.l.length ≤ 1000000) (hq : At w c.q.a c.q.l) (hql : c.q.l.length ≤ 1000000) :
    Calls Tryz.prog 25 #[.agg #[.int .i64 c.p.regs, .slice c.p.a c.p.l.length c.p.c], .agg #[.int .i64 c.q.regs, .slice c.q.a c.q.l.length c.q.c], .slice xa xn xc, .slice ta tn tc, .int .i64 l] w (GradOut 50 w.heap.size (c.gV xs l) (c.gX xs l) (c.gT xs l) (c.mayM l) w) := by
  by_cases h0 : c.mayM l = 0
  · obtain ⟨hc, l1, l2⟩ := ChD.mayM_ok h0
    obtain ⟨ln, rfl⟩ : ∃ n : Nat, l = n := ⟨l.toNat, by omega⟩
    unfold ChD.gV ChD.gX ChD.gT
    rw [if_pos h0, if_pos h0, if_pos h0, h0, Int.toNat_natCast, ← hxn, ← htn]
    refine (MGrad_good c hc xs xn tn ln hxn hcx htn (by omega) xa xc ta tc w hx ht hp hpl hq hql h0).mono ?_
    rintro e w' ⟨a1, c1, a2, c2, rfl, h1, h2, hb⟩
    exact ⟨a1, xn, c1, a2, tn, c2, rfl, (ChD.gradL_len _ _ _ _ _).symm, (ChD.gradL_len _ _ _ _ _).symm, h1, h2, hb⟩
  · unfold ChD.gV ChD.gX ChD.gT
    rw [if_neg h0, if_neg h0, if_neg h0]
    exact MGrad_bad c xn tn hcx htn hxl htl l xa xc ta tc w ht hp hpl hq hql _ rfl h0
end Go.Proofs.YtcamcnahkdiefaaGreat

/- Chapter 24: are two results alike. -/
namespace Go.Proofs.YtcamcnahkdiefaaGreat
set_option linter.unusedVariables false
set_option linter.unusedSimpArgs false
open Go.RowKit
set_option maxRecDepth 100000 in
set_option maxHeartbeats 3200000 in
theorem Same24_calls (V : UInt64) (X T : List UInt64) (a1 a2 b1 b2 : Option Addr) (n1 n2 m1 m2 c1 c2 d1 d2 : Nat) (hn1 : n1 = X.length) (hm1 : m1 = X.length) (hn2 : n2 = T.length) (hm2 : m2 = T.length) (w : World) (h1 : At w a1 X) (h2 : At w a2 T) (h3 : At w b1 X) (h4 : At w b2 T) (hl1 : n1 ≤ 1000000) (hl2 : n2 ≤ 1000000) :
    Calls Tryz.prog 27 #[.agg #[.int .u64 (V.toNat : Int), .slice a1 n1 c1, .slice a2 n2 c2], .agg #[.int .u64 (V.toNat : Int), .slice b1 m1 d1, .slice b2 m2 d2]] w fun e w' => e = .returned (.bool true) ∧ Below w.heap.size w w' := by
  obtain rfl : m1 = n1 := hm1.trans hn1.symm
  obtain rfl : m2 = n2 := hm2.trans hn2.symm
  obtain ⟨hX, hY, hb0, hz0⟩ := two_boxes w 56 56 #[.int .u64 (V.toNat : Int), .slice a1 m1 c1, .slice a2 m2 c2] #[.int .u64 (V.toNat : Int), .slice b1 m1 d1, .slice b2 m2 d2]
  obtain ⟨x0, x1, x2, x3, x4, x5⟩ := hX.c3
  obtain ⟨y0, y1, y2, y3, y4, y5⟩ := hY.c3
  have h1' := h1.belowN hb0
  have h2' := h2.belowN hb0
  have h3' := h3.belowN hb0
  have h4' := h4.belowN hb0
  have HN1 := hide hn1
  have HN2 := hide hn2
  clear hn1 hn2 hm1 hm2 h1 h2 h3 h4
  go_enter Tryz.func27, Tryz.ntmps27
  go_wp2
  have hbd : Below w.heap.size w (((w.alloc (.cells #[.int .u64 (V.toNat : Int), .slice a1 m1 c1, .slice a2 m2 c2] 56)).alloc (.cells #[.int .u64 (V.toNat : Int), .slice b1 m1 d1, .slice b2 m2 d2] 56))) := hb0
  go_loopw [5] (fun iv wr => ∃ i : Nat, iv = .int .i64 i ∧ i ≤ m1 ∧ Below ((w.alloc (.cells #[.int .u64 (V.toNat : Int), .slice a1 m1 c1, .slice a2 m2 c2] 56)).alloc (.cells #[.int .u64 (V.toNat : Int), .slice b1 m1 d1, .slice b2 m2 d2] 56)).heap.size ((w.alloc (.cells #[.int .u64 (V.toNat : Int), .slice a1 m1 c1, .slice a2 m2 c2] 56)).alloc (.cells #[.int .u64 (V.toNat : Int), .slice b1 m1 d1, .slice b2 m2 d2] 56)) wr) (fun iv _ => m1 - (intOf iv).toNat)
  case atStart => exact ⟨0, rfl, by omega, by first | exact Below.refl _ _ | exact Below.drew (Below.refl _ _)⟩
  case round =>
    obtain ⟨i, rfl, hi, hbr⟩ := hrel
    obtain ⟨x0, x1, x2, x3, x4, x5⟩ := (hX.belowN hbr).c3
    obtain ⟨y0, y1, y2, y3, y4, y5⟩ := (hY.belowN hbr).c3
    by_cases hlt : i < m1
    · obtain ⟨b, off, v, rfl, hv, u0⟩ := h1'.getU hbr (k := i) (by have := HN1.out; omega)
      obtain ⟨b', off', v', rfl, hv', u1⟩ := h3'.getU hbr (k := i) (by have := HN1.out; omega)
      obtain rfl : v' = v := Option.some.inj (hv'.out.symm.trans hv.out)
      clear hv hv'
      go_wp2
      go_region
      go_wp2
      go_roundw
      case rel => exact ⟨i + 1, by go_num, by omega, by first | exact hbr | exact hbr.drew⟩
      case measure => simp [intOf] <;> omega
    · have hin : m1 = i := by omega
      subst hin
      have hb2 := hb0.trans (hbr.mono hb0.size)
      have hX2 := hX.belowN hbr
      have hY2 := hY.belowN hbr
      have h22 := h2'.belowN hbr
      have h42 := h4'.belowN hbr
      obtain ⟨w2, rfl⟩ : ∃ w2 : World, w2 = wr := ⟨_, rfl⟩
      clear hbr hbd h2' h4' h1' h3'
      go_wp2
      go_loopw [6] (fun iv wr => ∃ j : Nat, iv = .int .i64 j ∧ j ≤ m2 ∧ Below w2.heap.size w2 wr) (fun iv _ => m2 - (intOf iv).toNat)
      case atStart => exact ⟨0, rfl, by omega, by first | exact Below.refl _ _ | exact Below.drew (Below.refl _ _)⟩
      case round =>
        obtain ⟨j, rfl, hj, hbr⟩ := hrel
        obtain ⟨x0, x1, x2, x3, x4, x5⟩ := (hX2.belowN hbr).c3
        obtain ⟨y0, y1, y2, y3, y4, y5⟩ := (hY2.belowN hbr).c3
        by_cases hlt : j < m2
        · obtain ⟨b, off, v, rfl, hv, u0⟩ := h22.getU hbr (k := j) (by have := HN2.out; omega)
          obtain ⟨b', off', v', rfl, hv', u1⟩ := h42.getU hbr (k := j) (by have := HN2.out; omega)
          obtain rfl : v' = v := Option.some.inj (hv'.out.symm.trans hv.out)
          clear hv hv'
          go_wp2
          go_region
          go_wp2
          go_roundw
          case rel => exact ⟨j + 1, by go_num, by omega, by first | exact hbr | exact hbr.drew⟩
          case measure => simp [intOf] <;> omega
        · have hin : m2 = j := by omega
          subst hin
          go_wp2
          go_ret
          exact ⟨rfl, hb2.trans (hbr.mono hb2.size)⟩
end Go.Proofs.YtcamcnahkdiefaaGreat
