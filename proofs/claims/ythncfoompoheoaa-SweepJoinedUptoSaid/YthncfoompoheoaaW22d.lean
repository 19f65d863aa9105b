/- Chapter 22: SweepJoined. -/
import Derived.Deep.RegionHeld3
import Derived.Deep.RegionLaw
import Derived.Test.YthncfoompoheoaaSj
import Derived.Test.YthncfoompoheoaaG22
import Derived.Test.YthncfoompoheoaaW21b
import Derived.Test.YthncfoompoheoaaRi
import Derived.Test.YthncfoompoheoaaQn
namespace Go.Proofs.Ythncfoompoheoaa
set_option linter.unusedVariables false
set_option linter.unusedSimpArgs false
open Go.RowKit
theorem sumR_snoc {v w : List UInt64} {k : Nat} {x y : UInt64} (hx : v[k]? = some x) (hy : w[k]? = some y) : sumR (v.take k) (w.take k) ++ [x + y] = sumR (v.take (k + 1)) (w.take (k + 1)) := by
  have h1 := (List.getElem?_eq_some_iff.1 hx).1
  have h2 := (List.getElem?_eq_some_iff.1 hy).1
  unfold sumR
  rw [List.take_add_one, List.take_add_one, hx, hy, List.zipWith_append (by simp; omega)]
  rfl
set_option maxRecDepth 100000 in
set_option maxHeartbeats 3200000 in
theorem SweepJoined_no (regs : Int) (a : Option Addr) (c : Nat) (l : List OpD) (ma : Option Addr) (mc : Nat) (m : List OpD) (ra : Option Addr) (rn rc : Nat) (va : Option Addr) (vn vc : Nat) (wa : Option Addr) (wn wc : Nat) (w : World) (h : At w a l) (hm : At w ma m) (hno : ¬ ((rn : Int) = regs ∧ (vn : Int) = regs ∧ (wn : Int) = regs)) :
    Calls Try.prog 10 #[.agg #[.int .i64 regs, .slice a l.length c], .slice ma m.length mc, .slice ra rn rc, .slice va vn vc, .slice wa wn wc] w fun e w' => e = .returned (.bool true) ∧ Below w.heap.size w w' := by
  have hr := At.nil (α := UInt64) w none
  have hv := hr
  have hw := hr
  have hbA := below_new12 w (.cells #[.int .i64 regs, .slice a l.length c] 24)
  have hb0 := hbA.alloc (by simp) (.cells #[.int .i64 regs, .slice ma m.length mc] 24)
  have hX := (Blk.new w 24 #[.int .i64 regs, .slice a l.length c]).alloc (.cells #[.int .i64 regs, .slice ma m.length mc] 24)
  have hY := Blk.new (w.alloc (.cells #[.int .i64 regs, .slice a l.length c] 24)) 24 #[.int .i64 regs, .slice ma m.length mc]
  simp only [World.size_alloc] at hY
  have h1 := h.belowN hb0
  have hm1 := hm.belowN hb0
  have hr1 := hr.belowN hb0
  have hv1 := hv.belowN hb0
  have hw1 := hw.belowN hb0
  obtain ⟨w0, hw0⟩ : ∃ w0, w0 = (w.alloc (.cells #[.int .i64 regs, .slice a l.length c] 24)).alloc (.cells #[.int .i64 regs, .slice ma m.length mc] 24) := ⟨_, rfl⟩
  rw [← hw0] at hb0 hX hY h1 hm1 hr1 hv1 hw1
  have HW0 : Hid ((w.alloc (.cells #[.int .i64 regs, .slice a l.length c] 24)).alloc (.cells #[.int .i64 regs, .slice ma m.length mc] 24) = w0) := hw0.symm
  have hz0 : w0.heap.size = w.heap.size + 2 := by rw [hw0]; simp
  obtain ⟨o0, o1, o2, o3⟩ := hX.c2
  obtain ⟨n0, n1, n2, n3⟩ := hY.c2
  clear hw0 h hm hr hv hw
  by_cases e1 : (rn : Int) = regs
  · by_cases e2 : (vn : Int) = regs
    · 
      have e3 : ¬ (wn : Int) = regs := fun e3 => hno ⟨e1, e2, e3⟩
      have d1 : ((rn : Int) != regs) = false := by simpa using e1
      have d2 : ((vn : Int) != regs) = false := by simpa using e2
      have d3 : ((wn : Int) != regs) = true := by simpa using e3
      clear hno e1 e2 e3 hr1 hv1 hw1
      go_enter Try.func10, Try.ntmps10
      go_wp2_with (go_at_call 24; go_must (rw [HW0.out]; (with_reducible refine (goes22_calls _).mono ?_); rintro e w8 ⟨rfl, hb8⟩))
      go_ret
      exact ⟨rfl, hb0.trans (hb8.mono hb0.size)⟩
    · 
      have d1 : ((rn : Int) != regs) = false := by simpa using e1
      have d2 : ((vn : Int) != regs) = true := by simpa using e2
      clear hno e1 e2 hr1 hv1 hw1
      go_enter Try.func10, Try.ntmps10
      go_wp2_with (go_at_call 24; go_must (rw [HW0.out]; (with_reducible refine (goes22_calls _).mono ?_); rintro e w8 ⟨rfl, hb8⟩))
      go_ret
      exact ⟨rfl, hb0.trans (hb8.mono hb0.size)⟩
  · 
      have d1 : ((rn : Int) != regs) = true := by simpa using e1
      clear hno e1 hr1 hv1 hw1
      go_enter Try.func10, Try.ntmps10
      go_wp2_with (go_at_call 24; go_must (rw [HW0.out]; (with_reducible refine (goes22_calls _).mono ?_); rintro e w8 ⟨rfl, hb8⟩))
      go_ret
      exact ⟨rfl, hb0.trans (hb8.mono hb0.size)⟩
set_option maxRecDepth 100000 in
set_option maxHeartbeats 3200000 in
theorem SweepJoined_big (rn : Nat) (a : Option Addr) (c : Nat) (l : List OpD) (ma : Option Addr) (mc : Nat) (m : List OpD) (ra : Option Addr) (rc : Nat) (va : Option Addr) (vc : Nat) (wa : Option Addr) (wc : Nat) (w : World) (h : At w a l) (hm : At w ma m) (hno : ¬ (small13 rn l 40 = true ∧ small13 rn m 40 = true)) :
    Calls Try.prog 10 #[.agg #[.int .i64 (rn : Int), .slice a l.length c], .slice ma m.length mc, .slice ra rn rc, .slice va rn vc, .slice wa rn wc] w fun e w' => e = .returned (.bool true) ∧ Below w.heap.size w w' := by
  have hr := At.nil (α := UInt64) w none
  have hv := hr
  have hw := hr
  obtain ⟨regs, hregs⟩ : ∃ regs : Int, regs = (rn : Int) := ⟨_, rfl⟩
  rw [← hregs]
  have hbA := below_new12 w (.cells #[.int .i64 regs, .slice a l.length c] 24)
  have hb0 := hbA.alloc (by simp) (.cells #[.int .i64 regs, .slice ma m.length mc] 24)
  have hX := (Blk.new w 24 #[.int .i64 regs, .slice a l.length c]).alloc (.cells #[.int .i64 regs, .slice ma m.length mc] 24)
  have hY := Blk.new (w.alloc (.cells #[.int .i64 regs, .slice a l.length c] 24)) 24 #[.int .i64 regs, .slice ma m.length mc]
  simp only [World.size_alloc] at hY
  have h1 := h.belowN hb0
  have hm1 := hm.belowN hb0
  have hr1 := hr.belowN hb0
  have hv1 := hv.belowN hb0
  have hw1 := hw.belowN hb0
  obtain ⟨w0, hw0⟩ : ∃ w0, w0 = (w.alloc (.cells #[.int .i64 regs, .slice a l.length c] 24)).alloc (.cells #[.int .i64 regs, .slice ma m.length mc] 24) := ⟨_, rfl⟩
  rw [← hw0] at hb0 hX hY h1 hm1 hr1 hv1 hw1
  have HW0 : Hid ((w.alloc (.cells #[.int .i64 regs, .slice a l.length c] 24)).alloc (.cells #[.int .i64 regs, .slice ma m.length mc] 24) = w0) := hw0.symm
  have hz0 : w0.heap.size = w.heap.size + 2 := by rw [hw0]; simp
  obtain ⟨o0, o1, o2, o3⟩ := hX.c2
  obtain ⟨n0, n1, n2, n3⟩ := hY.c2
  clear hw0 h hm hr hv hw
  subst hregs
  clear hr1 hv1 hw1
  cases hs : small13 rn l 40 with
  | false =>
    have HS := hide hs
    clear hs hno
    go_enter Try.func10, Try.ntmps10
    go_wp2_with (first
      | (go_at_call 28; go_must (rw [HW0.out]; (with_reducible refine (Small13_calls rn a c l _ false HS.out _ h1 (by omega)).mono ?_); rintro e w1 ⟨rfl, hC1⟩; obtain ⟨p4, p5, p6, p7⟩ := (hY.belowN hC1).c2))
      | (go_at_call 24; go_must ((with_reducible refine (goes22_calls _).mono ?_); rintro e w8 ⟨rfl, hb8⟩)))
    go_ret
    exact ⟨rfl, hb0.trans ((hC1.trans (hb8.mono hC1.size)).mono hb0.size)⟩
  | true =>
    cases ht : small13 rn m 40 with
    | true => exact absurd ⟨hs, ht⟩ hno
    | false =>
      have HS := hide hs
      have HT := hide ht
      clear hs ht hno
      go_enter Try.func10, Try.ntmps10
      go_wp2_with (first
        | (go_at_call 28; first
            | (have hgd := hC1; go_must ((with_reducible refine (Small13_calls rn ma mc m _ false HT.out _ (hm1.belowN hC1) (by omega)).mono ?_); rintro e w2 ⟨rfl, hb2⟩; have hC2 := hC1.trans (hb2.mono hC1.size); obtain ⟨q0, q1, q2, q3⟩ := (hX.belowN hC2).c2; obtain ⟨q4, q5, q6, q7⟩ := (hY.belowN hC2).c2))
            | go_must (rw [HW0.out]; (with_reducible refine (Small13_calls rn a c l _ true HS.out _ h1 (by omega)).mono ?_); rintro e w1 ⟨rfl, hC1⟩; obtain ⟨p0, p1, p2, p3⟩ := (hX.belowN hC1).c2; obtain ⟨p4, p5, p6, p7⟩ := (hY.belowN hC1).c2))
        | (go_at_call 24; go_must ((with_reducible refine (goes22_calls _).mono ?_); rintro e w8 ⟨rfl, hb8⟩)))
      go_ret
      exact ⟨rfl, hb0.trans ((hC2.trans (hb8.mono hC2.size)).mono hb0.size)⟩
set_option maxRecDepth 100000 in
set_option maxHeartbeats 12800000 in
theorem SweepJoined_good (rn : Nat) (a : Option Addr) (c : Nat) (l : List OpD) (ma : Option Addr) (mc : Nat) (m : List OpD) (ra : Option Addr) (rc : Nat) (r : List UInt64) (va : Option Addr) (vc : Nat) (v : List UInt64) (wa : Option Addr) (wc : Nat) (x : List UInt64) (w : World) (h : At w a l) (hm : At w ma m) (hr : At w ra r) (hv : At w va v) (hw : At w wa x)
    (hrn : rn = r.length) (hvn : rn = v.length) (hwn : rn = x.length) (hrb : rn ≤ 1000000) (hs : small13 rn l 40 = true) (ht : small13 rn m 40 = true) :
    Calls Try.prog 10 #[.agg #[.int .i64 (rn : Int), .slice a l.length c], .slice ma m.length mc, .slice ra rn rc, .slice va rn vc, .slice wa rn wc] w fun e w' => e = .returned (.bool true) ∧ Below w.heap.size w w' := by
  obtain ⟨regs, hregs⟩ : ∃ regs : Int, regs = (rn : Int) := ⟨_, rfl⟩
  rw [← hregs]
  have hbA := below_new12 w (.cells #[.int .i64 regs, .slice a l.length c] 24)
  have hb0 := hbA.alloc (by simp) (.cells #[.int .i64 regs, .slice ma m.length mc] 24)
  have hX := (Blk.new w 24 #[.int .i64 regs, .slice a l.length c]).alloc (.cells #[.int .i64 regs, .slice ma m.length mc] 24)
  have hY := Blk.new (w.alloc (.cells #[.int .i64 regs, .slice a l.length c] 24)) 24 #[.int .i64 regs, .slice ma m.length mc]
  simp only [World.size_alloc] at hY
  have h1 := h.belowN hb0
  have hm1 := hm.belowN hb0
  have hr1 := hr.belowN hb0
  have hv1 := hv.belowN hb0
  have hw1 := hw.belowN hb0
  obtain ⟨w0, hw0⟩ : ∃ w0, w0 = (w.alloc (.cells #[.int .i64 regs, .slice a l.length c] 24)).alloc (.cells #[.int .i64 regs, .slice ma m.length mc] 24) := ⟨_, rfl⟩
  rw [← hw0] at hb0 hX hY h1 hm1 hr1 hv1 hw1
  have HW0 : Hid ((w.alloc (.cells #[.int .i64 regs, .slice a l.length c] 24)).alloc (.cells #[.int .i64 regs, .slice ma m.length mc] 24) = w0) := hw0.symm
  have hz0 : w0.heap.size = w.heap.size + 2 := by rw [hw0]; simp
  obtain ⟨o0, o1, o2, o3⟩ := hX.c2
  obtain ⟨n0, n1, n2, n3⟩ := hY.c2
  clear hw0 h hm hr hv hw
  subst hregs
  have hsl := small_le22 hs
  have hsm := small_le22 ht
  have hsf := small_few22 hs
  have hsg := small_few22 ht
  have HS := hide hs
  have HT := hide ht
  have HSZ := hide (fun w' (h : At w' a l) => SizeW_calls a c l w' h (by omega))
  have hwb : 0 ≤ sizeW l ∧ sizeW l ≤ 65536 := sizeW_bd21 l
  obtain ⟨tn, hwn'⟩ : ∃ tn : Nat, sizeW l = tn := ⟨(sizeW l).toNat, by omega⟩
  rw [hwn'] at HSZ hwb
  obtain ⟨S, hS⟩ : ∃ S, sumR v x = S := ⟨_, rfl⟩
  have hSl : S.length = rn := by rw [← hS, sumR_length _ _ (by omega)]; exact hvn.symm
  obtain ⟨E, hE⟩ : ∃ E, pullE rn l rn rn = E := ⟨_, rfl⟩
  obtain ⟨PV, hPV⟩ : ∃ PV, pullA rn l r v = PV := ⟨_, rfl⟩
  obtain ⟨PW, hPW⟩ : ∃ PW, pullA rn l r x = PW := ⟨_, rfl⟩
  obtain ⟨PS, hPS⟩ : ∃ PS, pullA rn l r S = PS := ⟨_, rfl⟩
  have hE2 : pullE rn l r.length v.length = E := by rw [← hrn, ← hvn]; exact hE
  obtain ⟨s1, s2, s3⟩ := sum22 (l := l) (r := r) (v := v) (w := x) (regs := rn) (by omega) (by omega)
  rw [hS, hPV, hPW, hPS, hE2] at s3
  have HP0 : Hid (E ≠ 0 → PV.length = 0) := fun hq => by rw [← hPV, pullA_bad (by rw [hE2]; exact hq)]; rfl
  have hpl : E = 0 → PV.length = rn ∧ PW.length = rn := fun hq => by
    have k1 := pullA_length (hE2.trans hq)
    have k2 := pullA_length (regs := rn) (l := l) (r := r) (v := x) (by rw [s2]; exact hE2.trans hq)
    rw [hPV] at k1
    rw [hPW] at k2
    omega
  obtain ⟨Z, hZ⟩ : ∃ Z, Z = List.replicate tn (0 : UInt64) := ⟨_, rfl⟩
  have hZl : Z.length = tn := by rw [hZ, List.length_replicate]
  obtain ⟨N, hN⟩ : ∃ N, recN rn l rn tn = N := ⟨_, rfl⟩
  obtain ⟨R', hR'⟩ : ∃ R', recR rn l r Z = R' := ⟨_, rfl⟩
  obtain ⟨T', hT'⟩ : ∃ T', recT rn l r Z = T' := ⟨_, rfl⟩
  have hRl : R'.length = rn := by rw [← hR', recR_length, hrn]
  obtain ⟨X, hXX⟩ : ∃ X, pullA rn m R' v = X := ⟨_, rfl⟩
  obtain ⟨K, hK⟩ : ∃ K, pullE rn m rn rn = K := ⟨_, rfl⟩
  obtain ⟨Y, hYY⟩ : ∃ Y, pullA rn l r X = Y := ⟨_, rfl⟩
  have HJ : Hid (E = 0 → sizeE l = 0 ∧ readyS rn l rn tn = 0 ∧ PS = sumR PV PW ∧ (K = 0 → X.length = rn ∧ pullE rn l rn X.length = 0 ∧ pullE rn (l ++ m) rn rn = 0 ∧ pullA rn (l ++ m) r v = Y)) := by
    show E = 0 → _
    intro hq
    obtain ⟨k1, k2, k3⟩ := joined22 (regs := rn) (l := l) (m := m) (r := r) (v := v) (Z := Z) (by omega) (by omega) hsf hsg (by omega) (by omega) (hE2.trans hq) (by rw [hZl]; exact hwn'.symm)
    rw [← hrn, hZl] at k2
    refine ⟨k1, k2, s3 hq, fun hk => ?_⟩
    have hk2 : pullE rn m r.length v.length = 0 := by rw [← hrn, ← hvn, hK, hk]
    obtain ⟨k4, k5⟩ := k3 hk2
    have k6 := pullA_length (regs := rn) (l := m) (r := R') (v := v) (by rw [hRl, ← hvn, hK, hk])
    rw [hXX] at k6
    have k7 : X.length = rn := by omega
    rw [← hrn, ← hvn] at k4
    rw [hR', hXX, hYY] at k5
    exact ⟨k7, by rw [k7, hE, hq], k4, k5⟩
  have HPL := hide hpl
  have HRN := hide hrn
  have HVN := hide hvn
  have HWN := hide hwn
  have HSL := hide hSl.symm
  have HS' := hide hS
  have HPV := hide hPV
  have HPW := hide hPW
  have HPS := hide hPS
  have HEV := hide hE
  have HEW := HEV
  have HES := HEV
  have HZ := hide hZ
  have HZL := hide hZl.symm
  have HN := hide hN
  have HR' := hide hR'
  have HT' := hide hT'
  have HRL := hide hRl.symm
  have HXX := hide hXX
  have HK := hide hK
  have HYY := hide hYY
  clear hs ht hsf hsg hwn' hS hSl hE hE2 hPV hPW hPS s1 s2 s3 hpl hZ hZl hN hR' hT' hRl hXX hK hYY hrn hvn hwn
  go_enter Try.func10, Try.ntmps10
  go_wp2_with (first
        | (go_at_call 28; first
            | (have hgd := hC1; go_must ((with_reducible refine (Small13_calls rn ma mc m _ true HT.out _ (hm1.belowN hC1) (by omega)).mono ?_); rintro e w2 ⟨rfl, hb2⟩; have hC2 := hC1.trans (hb2.mono hC1.size); obtain ⟨q0, q1, q2, q3⟩ := (hX.belowN hC2).c2; obtain ⟨q4, q5, q6, q7⟩ := (hY.belowN hC2).c2))
            | go_must (rw [HW0.out]; (with_reducible refine (Small13_calls rn a c l _ true HS.out _ h1 (by omega)).mono ?_); rintro e w1 ⟨rfl, hC1⟩; obtain ⟨p0, p1, p2, p3⟩ := (hX.belowN hC1).c2; obtain ⟨p4, p5, p6, p7⟩ := (hY.belowN hC1).c2))
        | fail)
  have hz2 := hC2.size
  go_loopw [12, 13] (fun sv iv wr => ∃ (k : Nat) (ab : Option Addr) (cb : Nat), iv = .int .i64 k ∧ k ≤ rn ∧ sv = .slice ab k cb ∧ Own wr w2.heap.size 68 ab cb (sumR (v.take k) (x.take k)) ∧ Below w2.heap.size w2 wr) (fun _ iv _ => rn - (intOf iv).toNat)
  case atStart => exact ⟨0, _, 0, rfl, by omega, rfl, Own.new w2 (Nat.le_refl _) _ UInt64, below_new12 w2 _⟩
  case round =>
    obtain ⟨k, ab, cb, rfl, hk, rfl, hB, hb⟩ := hrel
    have hzr := hb.size
    by_cases hlt : k < rn
    · obtain ⟨b1, off1, y, rfl, hy, e0⟩ := (hv1.belowN hC2).getU hb (show k < v.length by have := HVN.out; omega)
      obtain ⟨b2, off2, z, rfl, hz, e1⟩ := (hw1.belowN hC2).getU hb (show k < x.length by have := HWN.out; omega)
      have HXS := hide (sumR_snoc hy.out hz.out)
      have HKL := hide (show k = (sumR (v.take k) (x.take k)).length by have := HVN.out; have := HWN.out; rw [sumR_length _ _ (by simp <;> omega), List.length_take]; omega)
      have hM : At (wr.alloc (.cells #[.int .u64 (y.toNat : Int), .int .u64 (z.toNat : Int)] 68)).drew (some ⟨wr.heap.size, 0, none⟩) [y, z] := At.ofBlk (Blk.new wr 68 #[.int .u64 (y.toNat : Int), .int .u64 (z.toNat : Int)]) [y, z] rfl
      have hn2 := below2 wr (.cells #[.int .u64 (y.toNat : Int), .int .u64 (z.toNat : Int)] 68) (.cells #[.int .u64 ((y + z).toNat : Int)] 68)
      have hbM : Below w2.heap.size w2 ((wr.alloc (.cells #[.int .u64 (y.toNat : Int), .int .u64 (z.toNat : Int)] 68)).alloc (.cells #[.int .u64 ((y + z).toNat : Int)] 68)).drew := (hb.trans (hn2.mono hzr)).drew
      have hBM := (hB.belowN hn2).drew
      have hSM : At ((wr.alloc (.cells #[.int .u64 (y.toNat : Int), .int .u64 (z.toNat : Int)] 68)).alloc (.cells #[.int .u64 ((y + z).toNat : Int)] 68)).drew (some ⟨wr.heap.size + 1, 0, none⟩) [y + z] := by
        have h0 := At.ofBlk (Blk.new (wr.alloc (.cells #[.int .u64 (y.toNat : Int), .int .u64 (z.toNat : Int)] 68)) 68 #[.int .u64 ((y + z).toNat : Int)]) [y + z] rfl
        simp only [World.size_alloc] at h0
        exact h0
      obtain ⟨y0, _⟩ := bcell (below_new12 wr (.cells #[.int .u64 (y.toNat : Int), .int .u64 (z.toNat : Int)] 68))
      have hzM := hbM.size
      go_wp2_with fail
      go_region_law (first
        | (refine step_pushAll tyU hBM (l2 := [y + z]) hSM rfl rfl rfl rfl HKL.out rfl hzM (by omega) (by omega) ?_; intro a3 c3 w3 hown3 hg3 hcs3)
        | (go_simp; go_at_call 53; go_must ((with_reducible refine (RAdd_calls y z _ _ _ hM).mono ?_); rintro e wm ⟨rfl, hwm⟩; subst hwm)))
      all_goals
        have hb3 := below_push hbM hBM hg3 hzM
        rw [HXS.out] at hown3
        go_wp2
        go_roundw
        case rel => exact ⟨k + 1, a3, c3, by go_num, by omega, rfl, hown3, hb3⟩
        case measure => simp [intOf] <;> omega
    · have hkn : k = rn := by omega
      subst hkn
      have hSS : sumR (v.take k) (x.take k) = S := by rw [← HS'.out]; congr 1 <;> first | (rw [HVN.out, List.take_length]) | (rw [HWN.out, List.take_length])
      rw [hSS] at hB
      have hC3 := hC2.trans (hb.mono hC2.size)
      have hS3 := hB
      obtain ⟨wo, hwo⟩ : ∃ wo, wo = wr := ⟨_, rfl⟩
      rw [← hwo] at hC3 hS3 ⊢
      have hz3 := hC3.size
      clear hlt hk hSS hB hb hzr hwo
      obtain ⟨p0, p1, p2, p3⟩ := (hX.belowN hC3).c2
      obtain ⟨p4, p5, p6, p7⟩ := (hY.belowN hC3).c2
      by_cases hE0 : E = 0
      · obtain ⟨j1, j2, j3, j4⟩ := HJ.out hE0
        obtain ⟨l1, l2⟩ := HPL.out hE0
        have hPVa : PV.length ≤ k := by omega
        have hPVb : k ≤ PV.length := by omega
        have hPWa : PW.length ≤ k := by omega
        have hPWb : k ≤ PW.length := by omega
        have hPSl : PS.length = k := by rw [j3, sumR_length _ _ (by omega)]; exact l1
        have hPSa : PS.length ≤ k := by omega
        have hPSb : k ≤ PS.length := by omega
        have hbq1 : ((PV.length : Int) != (PS.length : Int)) = false := by simp; omega
        have hbq2 : ((PW.length : Int) != (PS.length : Int)) = false := by simp; omega
        have HPSUM := hide j3
        have HE := hide j2
        have HJ4 := hide j4
        rw [j1] at HSZ
        subst hE0
        clear j1 j2 j3 j4 l1 l2 hPSl HJ HPL HP0
        by_cases hK0 : K = 0
        · obtain ⟨i1, i2, i3, i4⟩ := HJ4.out hK0
          have hXa : X.length ≤ k := by omega
          have hXb : k ≤ X.length := by omega
          have HEX := hide i2
          have HG := hide i3
          have HZZ := hide i4
          have HLM := hide (show l.length + m.length = (l ++ m).length by simp)
          subst hK0
          clear i1 i2 i3 i4 HJ4
          go_wp2_with (first
            | (go_at_call 25; first
                | (have hgd := hB5; go_must ((with_reducible refine (Pull_calls k a c _ l rfl ra k rc r HRN.out ab k cb S HSL.out PS 0 HPS.out HES.out w5 (h1.belowN hC5) (by omega) (hr1.belowN hC5) hS5.at_ (by omega) (by omega)).mono ?_); rintro e w6 ⟨a6, c6, rfl, hC6', hb6⟩; have hC6 := hC5.trans (hb6.mono hC5.size); have hA6 := hA5.belowN hb6; have hB6 := hB5.belowN hb6; obtain ⟨p0, p1, p2, p3⟩ := (hX.belowN hC6).c2; obtain ⟨p4, p5, p6, p7⟩ := (hY.belowN hC6).c2))
                | (have hgd := hA4; go_must ((with_reducible refine (Pull_calls k a c _ l rfl ra k rc r HRN.out wa k wc x HWN.out PW 0 HPW.out HEW.out w4 (h1.belowN hC4) (by omega) (hr1.belowN hC4) (hw1.belowN hC4) (by omega) (by omega)).mono ?_); rintro e w5 ⟨a5, c5, rfl, hB5, hb5⟩; have hC5 := hC4.trans (hb5.mono hC4.size); have hA5 := hA4.belowN hb5; have hS5 := hS4.belowN hb5; obtain ⟨p0, p1, p2, p3⟩ := (hX.belowN hC5).c2; obtain ⟨p4, p5, p6, p7⟩ := (hY.belowN hC5).c2))
                | go_must ((with_reducible refine (Pull_calls k a c _ l rfl ra k rc r HRN.out va k vc v HVN.out PV 0 HPV.out HEV.out wo (h1.belowN hC3) (by omega) (hr1.belowN hC3) (hv1.belowN hC3) (by omega) (by omega)).mono ?_); rintro e w4 ⟨a4, c4, rfl, hA4, hb4⟩; have hC4 := hC3.trans (hb4.mono hC3.size); have hS4 := hS3.belowN hb4; obtain ⟨p0, p1, p2, p3⟩ := (hX.belowN hC4).c2; obtain ⟨p4, p5, p6, p7⟩ := (hY.belowN hC4).c2))
            | fail)
          have hz6 := hC6.size
          go_loopw [20] (fun iv wr => ∃ j : Nat, iv = .int .i64 j ∧ j ≤ k ∧ Below w6.heap.size w6 wr) (fun iv _ => k - (intOf iv).toNat)
          case atStart => exact ⟨0, rfl, by omega, Below.refl _ _⟩
          case round =>
            obtain ⟨j, rfl, hj, hb'⟩ := hrel
            have hzr' := hb'.size
            by_cases hlt : j < k
            · obtain ⟨b1, off1, y, rfl, hy, e0⟩ := hA6.at_.getU hb' (show j < PV.length by omega)
              obtain ⟨b2, off2, z, rfl, hz, e1⟩ := hB6.at_.getU hb' (show j < PW.length by omega)
              obtain ⟨b3, off3, q, rfl, hq, e2⟩ := hC6'.at_.getU hb' (show j < PS.length by omega)
              have hqy : q = y + z := by
                have h2 := hq.out
                rw [HPSUM.out] at h2
                unfold sumR at h2
                rw [List.getElem?_zipWith, hy.out, hz.out] at h2
                simpa using h2.symm
              subst hqy
              have hM : At (wr.alloc (.cells #[.int .u64 (y.toNat : Int), .int .u64 (z.toNat : Int)] 68)).drew (some ⟨wr.heap.size, 0, none⟩) [y, z] := At.ofBlk (Blk.new wr 68 #[.int .u64 (y.toNat : Int), .int .u64 (z.toNat : Int)]) [y, z] rfl
              have hN0 : Below wr.heap.size wr (wr.alloc (.cells #[.int .u64 (y.toNat : Int), .int .u64 (z.toNat : Int)] 68)).drew := Below.drew (Below.alloc (Below.refl _ _) (Nat.le_refl _) _)
              have hbM := hb'.trans (hN0.mono hzr')
              have g1 : j < PV.length := by omega
              have g2 : j < PW.length := by omega
              have g3 : j < PS.length := by omega
              have g4 : (j : Int) < (PV.length : Int) := by omega
              have g5 : (j : Int) < (PW.length : Int) := by omega
              have g6 : (j : Int) < (PS.length : Int) := by omega
              have g7 : (0 : Int) ≤ (j : Int) := by omega
              obtain ⟨y0, _⟩ := bcell hN0
              have f0 := (y0 b1 (off1 + j) (by have := (hA6.blk b1 rfl).2; omega)).trans e0
              have f1 := (y0 b2 (off2 + j) (by have := (hB6.blk b2 rfl).2; omega)).trans e1
              have f2 := (y0 b3 (off3 + j) (by have := (hC6'.blk b3 rfl).2; omega)).trans e2
              clear y0
              go_wp2_with fail
              go_region_held3 (fun w' => w'.cell? ⟨b1, off1 + j, none⟩ = some (.int .u64 (y.toNat : Int)) ∧ w'.cell? ⟨b2, off2 + j, none⟩ = some (.int .u64 (z.toNat : Int)) ∧ w'.cell? ⟨b3, off3 + j, none⟩ = some (.int .u64 ((y + z).toNat : Int))) (go_keep)
                (first | (go_at_call 53; go_must ((with_reducible refine (RAdd_calls y z _ _ _ hM).mono ?_); rintro e wm ⟨rfl, hwm⟩; subst hwm)))
              go_wp2
              go_roundw
              case rel => exact ⟨j + 1, by go_num, by omega, hbM⟩
              case measure => simp [intOf] <;> omega
            · have hjk : j = k := by omega
              subst hjk
              clear hlt hj
              have hC7 := hC6.trans (hb'.mono hz6)
              obtain ⟨w7, hw7⟩ : ∃ w7, w7 = wr := ⟨_, rfl⟩
              rw [← hw7] at hC7 ⊢
              have hz7 := hC7.size
              clear hw7 hA6 hB6 hC6' hb' hzr'
              obtain ⟨u0, u1, u2, u3⟩ := (hX.belowN hC7).c2
              obtain ⟨u4, u5, u6, u7⟩ := (hY.belowN hC7).c2
              go_wp2_with (first
                | (go_at_call 15; go_must ((with_reducible refine (HSZ.out _ (h1.belowN hC7)).mono ?_); rintro e w8 ⟨rfl, hb8⟩; have hC8 := hC7.trans (hb8.mono hC7.size); obtain ⟨u0, u1, u2, u3⟩ := (hX.belowN hC8).c2; obtain ⟨u4, u5, u6, u7⟩ := (hY.belowN hC8).c2))
                | (at_builtin; refine wpList_ownAll tyU (hr1.belowN hC8) rfl rfl rfl rfl HRN.out (by omega) ?_; intro a9 c9 w9 hown9 hb9; have hC9 := hC8.trans (hb9.mono hC8.size); obtain ⟨u0, u1, u2, u3⟩ := (hX.belowN hC9).c2; obtain ⟨u4, u5, u6, u7⟩ := (hY.belowN hC9).c2))
              have hz8 := hC8.size
              have hz9 := hC9.size
              have hmk := mkU tn (tn : Int) rfl (by omega)
              have hNZ := below_new12 w9 (.cells (zerosU tn) 68)
              have hTZ : Own (w9.alloc (.cells (zerosU tn) 68)).drew w9.heap.size 68 (some ⟨w9.heap.size, 0, none⟩) tn (List.replicate tn (0 : UInt64)) := (ownZ (B := w9.heap.size) w9 (Nat.le_refl _) tn (by omega)).drew
              rw [← HZ.out] at hTZ
              have hMZ := (hown9.alloc (.cells (zerosU tn) 68)).drew
              have hC9Z : Below _ _ (w9.alloc (.cells (zerosU tn) 68)).drew := Below.drew (hC9.trans (hNZ.mono hz9))
              have hne9 : ∀ q, a9.map (·.block) = some q → (some (⟨w9.heap.size, 0, none⟩ : Addr)).map (·.block) ≠ some q := fun q e1 e2 => by have h1 := (hown9.blk q e1).2; simp at e2; omega
              have HB9 := hide hown9.blk
              have hC9A : Below _ _ (w9.alloc (.cells (zerosU tn) 68)) := hC9.trans (hNZ.mono hz9)
              obtain ⟨u0', u1', u2', u3'⟩ := (hX.belowN hC9A).c2
              obtain ⟨v0', v1', v2', v3'⟩ := (hX.belowN hC9Z).c2
              go_region_law (go_simp; go_at_call 54; go_must ((with_reducible refine (RecordN j a c _ l rfl a9 c9 j r HRN.out w8.heap.size (some ⟨w9.heap.size, 0, none⟩) tn tn Z HZL.out w9.heap.size N 0 R' T' HN.out HE.out HR'.out HT'.out _ (h1.belowN hC9Z) (by omega) hMZ hTZ (by omega) (by omega) hne9).mono ?_); rintro e w10 ⟨rfl, hR10, hT10, hTu10⟩; have hC10 := hTu10.below hC9Z (fun q hq => by rcases List.mem_append.1 hq with hq | hq <;> first | (have h1 := (HB9.out q (blkL_mem.1 hq)).1; simp; omega) | (have h1 := blkL_mem.1 hq; simp at h1; simp; omega)) (by have := hC9Z.size; omega); obtain ⟨u0, u1, u2, u3⟩ := (hX.belowN hC10).c2; obtain ⟨u4, u5, u6, u7⟩ := (hY.belowN hC10).c2))
              all_goals
                go_wp2_with (first
                  | (go_at_call 25; first
                    | (have hgd := hX11; go_must ((with_reducible refine (Pull_calls j a c _ l rfl ra j rc r HRN.out a11 _ c11 X rfl Y 0 HYY.out HEX.out w11 (h1.belowN hC11) (by omega) (hr1.belowN hC11) hX11.at_ (by omega) (by omega)).mono ?_); rintro e w12 ⟨a12, c12, rfl, hY12, hb12⟩; have hC12 := hC11.trans (hb12.mono hC11.size); obtain ⟨u0, u1, u2, u3⟩ := (hX.belowN hC12).c2; obtain ⟨u4, u5, u6, u7⟩ := (hY.belowN hC12).c2))
                    | go_must ((with_reducible refine (Pull_calls j ma mc _ m rfl a9 j c9 R' HRL.out va j vc v HVN.out X 0 HXX.out HK.out w10 (hm1.belowN hC10) (by omega) hR10.at_ (hv1.belowN hC10) (by omega) (by omega)).mono ?_); rintro e w11 ⟨a11, c11, rfl, hX11, hb11⟩; have hC11 := hC10.trans (hb11.mono hC10.size); obtain ⟨u0, u1, u2, u3⟩ := (hX.belowN hC11).c2; obtain ⟨u4, u5, u6, u7⟩ := (hY.belowN hC11).c2))
                  | (go_at_call 24; go_must ((with_reducible refine (goes22_calls _).mono ?_); rintro e w13 ⟨rfl, hb13⟩)))
                have hz12 := hC12.size
                have hm12 := hm1.belowN hC12
                have hr12 := hr1.belowN hC12
                have hl12 := h1.belowN hC12
                have hv12 := hv1.belowN hC12
                have hX12 := hX.belowN hC12
                have t1 := hX12.lt
                have hO0 : Own (w12.drew.alloc (.cells #[] 99)) w12.heap.size 99 (some ⟨w12.heap.size, 0, none⟩) 0 ([] : List OpD) := Own.new w12.drew (Nat.le_refl _) 99 OpD
                have hN0 : Below w12.heap.size w12 (w12.drew.alloc (.cells #[] 99)) := Below.alloc (Below.drew (Below.refl _ _)) (Nat.le_refl _) _
                go_region_held3 (fun w' => w'.cell? ⟨w.heap.size, 0, none⟩ = some (.int .i64 (j : Int)) ∧ w'.cell? ⟨w.heap.size, 1, none⟩ = some (.slice a l.length c)) (go_keep)
                  (first
                    | (refine step_pushAll tyO hown14 (l2 := m) (hm12.belowN hB46) rfl rfl rfl rfl (by simp) rfl hz46 (by omega) (by omega) ?_; intro a15 c15 w15 hown15 hg15 _; have hB47 := below_push hB46 hown14 hg15 hz46; have hz47 := hB47.size; obtain ⟨u0, u1, u2, u3⟩ := (hX12.belowN hB47).c2)
                    | (refine step_pushAll tyO hO0 (l2 := l) (hl12.belowN hN0) rfl rfl rfl rfl rfl rfl (by simp) (by omega) (by omega) ?_; intro a14 c14 w14 hown14 hg14 _; have hB46 := below_push hN0 hO0 hg14 (by simp); have hz46 := hB46.size; obtain ⟨v0, v1, v2, v3⟩ := (hX12.belowN hB46).c2; rw [List.nil_append] at hown14)
                    | (go_at_call 25; go_must ((with_reducible refine (Pull_calls j _ _ _ (l ++ m) HLM.out ra j rc r HRN.out va j vc v HVN.out Y 0 HZZ.out HG.out _ hown15.at_ (by omega) (hr12.belowN hB47) (hv12.belowN hB47) (by omega) (by omega)).mono ?_); rintro e w16 ⟨a16, c16, rfl, hown16, hb16⟩; have hB48 := hB47.trans (hb16.mono hz47); have hz48 := hB48.size; obtain ⟨y0, y1, y2, y3⟩ := (hX12.belowN hB48).c2)))
                have hC16 := hC12.trans (hB48.mono hz12)
                have hYY := (hY12.belowN hB48).at_
                clear hown14 hown15 hO0 hN0
                go_wp2_with (first
                  | (go_at_call 27; go_must ((with_reducible refine (Same5N _ _ _ _ _ _ Y _ rfl rfl hYY hown16.at_ (by have := pullA_len j l r X; rw [HYY.out] at this; omega)).mono ?_); rintro e w17 ⟨rfl, q17, hw17⟩; have hC17 : Below _ _ w17 := (by rw [hw17]; exact below_drewN hC16 _); clear hw17))
                  | (go_at_call 24; go_must ((with_reducible refine (goes22_calls _).mono ?_); rintro e w18 ⟨rfl, hb18⟩)))
                go_ret
                exact ⟨rfl, hb0.trans ((hC17.trans (hb18.mono hC17.size)).mono hb0.size)⟩
        · have d1 : (K == 0) = false := by simpa using hK0
          have d2 : (K != 0) = true := by simpa using hK0
          have HEX : Hid (True) := hide trivial
          clear hK0 HJ4
          go_wp2_with (first
            | (go_at_call 25; first
                | (have hgd := hB5; go_must ((with_reducible refine (Pull_calls k a c _ l rfl ra k rc r HRN.out ab k cb S HSL.out PS 0 HPS.out HES.out w5 (h1.belowN hC5) (by omega) (hr1.belowN hC5) hS5.at_ (by omega) (by omega)).mono ?_); rintro e w6 ⟨a6, c6, rfl, hC6', hb6⟩; have hC6 := hC5.trans (hb6.mono hC5.size); have hA6 := hA5.belowN hb6; have hB6 := hB5.belowN hb6; obtain ⟨p0, p1, p2, p3⟩ := (hX.belowN hC6).c2; obtain ⟨p4, p5, p6, p7⟩ := (hY.belowN hC6).c2))
                | (have hgd := hA4; go_must ((with_reducible refine (Pull_calls k a c _ l rfl ra k rc r HRN.out wa k wc x HWN.out PW 0 HPW.out HEW.out w4 (h1.belowN hC4) (by omega) (hr1.belowN hC4) (hw1.belowN hC4) (by omega) (by omega)).mono ?_); rintro e w5 ⟨a5, c5, rfl, hB5, hb5⟩; have hC5 := hC4.trans (hb5.mono hC4.size); have hA5 := hA4.belowN hb5; have hS5 := hS4.belowN hb5; obtain ⟨p0, p1, p2, p3⟩ := (hX.belowN hC5).c2; obtain ⟨p4, p5, p6, p7⟩ := (hY.belowN hC5).c2))
                | go_must ((with_reducible refine (Pull_calls k a c _ l rfl ra k rc r HRN.out va k vc v HVN.out PV 0 HPV.out HEV.out wo (h1.belowN hC3) (by omega) (hr1.belowN hC3) (hv1.belowN hC3) (by omega) (by omega)).mono ?_); rintro e w4 ⟨a4, c4, rfl, hA4, hb4⟩; have hC4 := hC3.trans (hb4.mono hC3.size); have hS4 := hS3.belowN hb4; obtain ⟨p0, p1, p2, p3⟩ := (hX.belowN hC4).c2; obtain ⟨p4, p5, p6, p7⟩ := (hY.belowN hC4).c2))
            | fail)
          have hz6 := hC6.size
          go_loopw [20] (fun iv wr => ∃ j : Nat, iv = .int .i64 j ∧ j ≤ k ∧ Below w6.heap.size w6 wr) (fun iv _ => k - (intOf iv).toNat)
          case atStart => exact ⟨0, rfl, by omega, Below.refl _ _⟩
          case round =>
            obtain ⟨j, rfl, hj, hb'⟩ := hrel
            have hzr' := hb'.size
            by_cases hlt : j < k
            · obtain ⟨b1, off1, y, rfl, hy, e0⟩ := hA6.at_.getU hb' (show j < PV.length by omega)
              obtain ⟨b2, off2, z, rfl, hz, e1⟩ := hB6.at_.getU hb' (show j < PW.length by omega)
              obtain ⟨b3, off3, q, rfl, hq, e2⟩ := hC6'.at_.getU hb' (show j < PS.length by omega)
              have hqy : q = y + z := by
                have h2 := hq.out
                rw [HPSUM.out] at h2
                unfold sumR at h2
                rw [List.getElem?_zipWith, hy.out, hz.out] at h2
                simpa using h2.symm
              subst hqy
              have hM : At (wr.alloc (.cells #[.int .u64 (y.toNat : Int), .int .u64 (z.toNat : Int)] 68)).drew (some ⟨wr.heap.size, 0, none⟩) [y, z] := At.ofBlk (Blk.new wr 68 #[.int .u64 (y.toNat : Int), .int .u64 (z.toNat : Int)]) [y, z] rfl
              have hN0 : Below wr.heap.size wr (wr.alloc (.cells #[.int .u64 (y.toNat : Int), .int .u64 (z.toNat : Int)] 68)).drew := Below.drew (Below.alloc (Below.refl _ _) (Nat.le_refl _) _)
              have hbM := hb'.trans (hN0.mono hzr')
              have g1 : j < PV.length := by omega
              have g2 : j < PW.length := by omega
              have g3 : j < PS.length := by omega
              have g4 : (j : Int) < (PV.length : Int) := by omega
              have g5 : (j : Int) < (PW.length : Int) := by omega
              have g6 : (j : Int) < (PS.length : Int) := by omega
              have g7 : (0 : Int) ≤ (j : Int) := by omega
              obtain ⟨y0, _⟩ := bcell hN0
              have f0 := (y0 b1 (off1 + j) (by have := (hA6.blk b1 rfl).2; omega)).trans e0
              have f1 := (y0 b2 (off2 + j) (by have := (hB6.blk b2 rfl).2; omega)).trans e1
              have f2 := (y0 b3 (off3 + j) (by have := (hC6'.blk b3 rfl).2; omega)).trans e2
              clear y0
              go_wp2_with fail
              go_region_held3 (fun w' => w'.cell? ⟨b1, off1 + j, none⟩ = some (.int .u64 (y.toNat : Int)) ∧ w'.cell? ⟨b2, off2 + j, none⟩ = some (.int .u64 (z.toNat : Int)) ∧ w'.cell? ⟨b3, off3 + j, none⟩ = some (.int .u64 ((y + z).toNat : Int))) (go_keep)
                (first | (go_at_call 53; go_must ((with_reducible refine (RAdd_calls y z _ _ _ hM).mono ?_); rintro e wm ⟨rfl, hwm⟩; subst hwm)))
              go_wp2
              go_roundw
              case rel => exact ⟨j + 1, by go_num, by omega, hbM⟩
              case measure => simp [intOf] <;> omega
            · have hjk : j = k := by omega
              subst hjk
              clear hlt hj
              have hC7 := hC6.trans (hb'.mono hz6)
              obtain ⟨w7, hw7⟩ : ∃ w7, w7 = wr := ⟨_, rfl⟩
              rw [← hw7] at hC7 ⊢
              have hz7 := hC7.size
              clear hw7 hA6 hB6 hC6' hb' hzr'
              obtain ⟨u0, u1, u2, u3⟩ := (hX.belowN hC7).c2
              obtain ⟨u4, u5, u6, u7⟩ := (hY.belowN hC7).c2
              go_wp2_with (first
                | (go_at_call 15; go_must ((with_reducible refine (HSZ.out _ (h1.belowN hC7)).mono ?_); rintro e w8 ⟨rfl, hb8⟩; have hC8 := hC7.trans (hb8.mono hC7.size); obtain ⟨u0, u1, u2, u3⟩ := (hX.belowN hC8).c2; obtain ⟨u4, u5, u6, u7⟩ := (hY.belowN hC8).c2))
                | (at_builtin; refine wpList_ownAll tyU (hr1.belowN hC8) rfl rfl rfl rfl HRN.out (by omega) ?_; intro a9 c9 w9 hown9 hb9; have hC9 := hC8.trans (hb9.mono hC8.size); obtain ⟨u0, u1, u2, u3⟩ := (hX.belowN hC9).c2; obtain ⟨u4, u5, u6, u7⟩ := (hY.belowN hC9).c2))
              have hz8 := hC8.size
              have hz9 := hC9.size
              have hmk := mkU tn (tn : Int) rfl (by omega)
              have hNZ := below_new12 w9 (.cells (zerosU tn) 68)
              have hTZ : Own (w9.alloc (.cells (zerosU tn) 68)).drew w9.heap.size 68 (some ⟨w9.heap.size, 0, none⟩) tn (List.replicate tn (0 : UInt64)) := (ownZ (B := w9.heap.size) w9 (Nat.le_refl _) tn (by omega)).drew
              rw [← HZ.out] at hTZ
              have hMZ := (hown9.alloc (.cells (zerosU tn) 68)).drew
              have hC9Z : Below _ _ (w9.alloc (.cells (zerosU tn) 68)).drew := Below.drew (hC9.trans (hNZ.mono hz9))
              have hne9 : ∀ q, a9.map (·.block) = some q → (some (⟨w9.heap.size, 0, none⟩ : Addr)).map (·.block) ≠ some q := fun q e1 e2 => by have h1 := (hown9.blk q e1).2; simp at e2; omega
              have HB9 := hide hown9.blk
              have hC9A : Below _ _ (w9.alloc (.cells (zerosU tn) 68)) := hC9.trans (hNZ.mono hz9)
              obtain ⟨u0', u1', u2', u3'⟩ := (hX.belowN hC9A).c2
              obtain ⟨v0', v1', v2', v3'⟩ := (hX.belowN hC9Z).c2
              go_region_law (go_simp; go_at_call 54; go_must ((with_reducible refine (RecordN j a c _ l rfl a9 c9 j r HRN.out w8.heap.size (some ⟨w9.heap.size, 0, none⟩) tn tn Z HZL.out w9.heap.size N 0 R' T' HN.out HE.out HR'.out HT'.out _ (h1.belowN hC9Z) (by omega) hMZ hTZ (by omega) (by omega) hne9).mono ?_); rintro e w10 ⟨rfl, hR10, hT10, hTu10⟩; have hC10 := hTu10.below hC9Z (fun q hq => by rcases List.mem_append.1 hq with hq | hq <;> first | (have h1 := (HB9.out q (blkL_mem.1 hq)).1; simp; omega) | (have h1 := blkL_mem.1 hq; simp at h1; simp; omega)) (by have := hC9Z.size; omega); obtain ⟨u0, u1, u2, u3⟩ := (hX.belowN hC10).c2; obtain ⟨u4, u5, u6, u7⟩ := (hY.belowN hC10).c2))
              all_goals
                go_wp2_with (first
                  | (go_at_call 25; first
                    | (have hgd := hX11; go_must ((with_reducible refine (Pull_calls j a c _ l rfl ra j rc r HRN.out a11 _ c11 X rfl Y 0 HYY.out HEX.out w11 (h1.belowN hC11) (by omega) (hr1.belowN hC11) hX11.at_ (by omega) (by omega)).mono ?_); rintro e w12 ⟨a12, c12, rfl, hY12, hb12⟩; have hC12 := hC11.trans (hb12.mono hC11.size); obtain ⟨u0, u1, u2, u3⟩ := (hX.belowN hC12).c2; obtain ⟨u4, u5, u6, u7⟩ := (hY.belowN hC12).c2))
                    | go_must ((with_reducible refine (Pull_calls j ma mc _ m rfl a9 j c9 R' HRL.out va j vc v HVN.out X K HXX.out HK.out w10 (hm1.belowN hC10) (by omega) hR10.at_ (hv1.belowN hC10) (by omega) (by omega)).mono ?_); rintro e w11 ⟨a11, c11, rfl, hX11, hb11⟩; have hC11 := hC10.trans (hb11.mono hC10.size); obtain ⟨u0, u1, u2, u3⟩ := (hX.belowN hC11).c2; obtain ⟨u4, u5, u6, u7⟩ := (hY.belowN hC11).c2))
                  | (go_at_call 24; go_must ((with_reducible refine (goes22_calls _).mono ?_); rintro e w13 ⟨rfl, hb13⟩)))
                go_ret
                exact ⟨rfl, hb0.trans ((hC11.trans (hb13.mono hC11.size)).mono hb0.size)⟩
      · have hP0 := HP0.out hE0
        have d4 : ((PV.length : Int) == 0) = true := by rw [hP0]; rfl
        have d1 : (E == 0) = false := by simpa using hE0
        have d2 : (E != 0) = true := by simpa using hE0
        have d3 : (E == E) = true := by simp
        clear hE0 hP0 HJ HPL HP0
        go_wp2_with (first
            | (go_at_call 25; first
                | (have hgd := hB5; go_must ((with_reducible refine (Pull_calls k a c _ l rfl ra k rc r HRN.out ab k cb S HSL.out PS E HPS.out HES.out w5 (h1.belowN hC5) (by omega) (hr1.belowN hC5) hS5.at_ (by omega) (by omega)).mono ?_); rintro e w6 ⟨a6, c6, rfl, hC6', hb6⟩; have hC6 := hC5.trans (hb6.mono hC5.size); have hA6 := hA5.belowN hb6; have hB6 := hB5.belowN hb6; obtain ⟨p0, p1, p2, p3⟩ := (hX.belowN hC6).c2; obtain ⟨p4, p5, p6, p7⟩ := (hY.belowN hC6).c2))
                | (have hgd := hA4; go_must ((with_reducible refine (Pull_calls k a c _ l rfl ra k rc r HRN.out wa k wc x HWN.out PW E HPW.out HEW.out w4 (h1.belowN hC4) (by omega) (hr1.belowN hC4) (hw1.belowN hC4) (by omega) (by omega)).mono ?_); rintro e w5 ⟨a5, c5, rfl, hB5, hb5⟩; have hC5 := hC4.trans (hb5.mono hC4.size); have hA5 := hA4.belowN hb5; have hS5 := hS4.belowN hb5; obtain ⟨p0, p1, p2, p3⟩ := (hX.belowN hC5).c2; obtain ⟨p4, p5, p6, p7⟩ := (hY.belowN hC5).c2))
                | go_must ((with_reducible refine (Pull_calls k a c _ l rfl ra k rc r HRN.out va k vc v HVN.out PV E HPV.out HEV.out wo (h1.belowN hC3) (by omega) (hr1.belowN hC3) (hv1.belowN hC3) (by omega) (by omega)).mono ?_); rintro e w4 ⟨a4, c4, rfl, hA4, hb4⟩; have hC4 := hC3.trans (hb4.mono hC3.size); have hS4 := hS3.belowN hb4; obtain ⟨p0, p1, p2, p3⟩ := (hX.belowN hC4).c2; obtain ⟨p4, p5, p6, p7⟩ := (hY.belowN hC4).c2))
            | (go_at_call 24; go_must ((with_reducible refine (goes22_calls _).mono ?_); rintro e w13 ⟨rfl, hb13⟩)))
        go_ret
        exact ⟨rfl, hb0.trans ((hC6.trans (hb13.mono hC6.size)).mono hb0.size)⟩
theorem SweepJoined_calls (regs : Int) (a : Option Addr) (c : Nat) (l : List OpD) (ma : Option Addr) (mc : Nat) (m : List OpD) (ra : Option Addr) (rc : Nat) (r : List UInt64) (va : Option Addr) (vc : Nat) (v : List UInt64) (wa : Option Addr) (wc : Nat) (x : List UInt64) (w : World) (h : At w a l) (hm : At w ma m) (hr : At w ra r) (hv : At w va v) (hw : At w wa x) (hrb : r.length + v.length + x.length ≤ 1048576) :
    Calls Try.prog 10 #[.agg #[.int .i64 regs, .slice a l.length c], .slice ma m.length mc, .slice ra r.length rc, .slice va v.length vc, .slice wa x.length wc] w fun e w' => e = .returned (.bool true) ∧ Below w.heap.size w w' := by
  by_cases hno : (r.length : Int) = regs ∧ (v.length : Int) = regs ∧ (x.length : Int) = regs
  · obtain ⟨e1, e2, e3⟩ := hno
    subst e1
    obtain ⟨rn, hrn⟩ : ∃ rn, rn = r.length := ⟨_, rfl⟩
    have hvn : v.length = rn := by omega
    have hwn : x.length = rn := by omega
    rw [hvn, hwn, ← hrn]
    by_cases hs : small13 rn l 40 = true ∧ small13 rn m 40 = true
    · exact SweepJoined_good rn a c l ma mc m ra rc r va vc v wa wc x w h hm hr hv hw hrn hvn.symm hwn.symm (by omega) hs.1 hs.2
    · exact SweepJoined_big rn a c l ma mc m ra rc va vc wa wc w h hm hs
  · exact SweepJoined_no regs a c l ma mc m ra _ rc va _ vc wa _ wc w h hm hno
end Go.Proofs.Ythncfoompoheoaa
