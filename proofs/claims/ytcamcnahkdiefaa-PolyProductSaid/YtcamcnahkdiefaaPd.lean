/- Same of both sides. -/
import Derived.Test.YtcamcnahkdiefaaPc
namespace Go.Proofs.Ytcamcnahkdiefaa
set_option linter.unusedVariables false
set_option linter.unusedSimpArgs false
open Go.RowKit
/-- two polynomials are one -/
def sameP (v1 : Int) (a : List Tm) (v2 : Int) (b : List Tm) : Bool := decide (v1 = v2) && decide (a = b)
theorem dec_cons (t u : Tm) (l m : List Tm) : decide (t :: l = u :: m) = (decide (t = u) && decide (l = m)) := by simp
theorem tm_ne1 {t u : Tm} (h : t.1 ≠ u.1) : decide (t = u) = false := decide_eq_false fun e => h (by rw [e])
theorem tm_ne2 {t u : Tm} (h : t.2 ≠ u.2) : decide (t = u) = false := decide_eq_false fun e => h (by rw [e])
theorem u64_eqI {a b : UInt64} (h : a = b) : ((a.toNat : Int) == (b.toNat : Int)) = true := by rw [h]; simp
theorem u64_neI {a b : UInt64} (h : a ≠ b) : ((a.toNat : Int) == (b.toNat : Int)) = false := by
  simp only [beq_eq_false_iff_ne, ne_eq]
  exact fun q => h (UInt64.toNat_inj.1 (by omega))
set_option maxRecDepth 100000 in
set_option maxHeartbeats 3200000 in
theorem RSame_calls (v1 v2 : Int) (a b : Option Addr) (n m ca cb : Nat) (ts us : List Tm) (hn : n = ts.length) (hm : m = us.length) (w : World) (h : AtT w a ts) (h' : AtT w b us) (hl : n ≤ 1000000) (hll : ∀ t ∈ ts, t.2.length ≤ 1000000) (B : Bool) (hB : sameP v1 ts v2 us = B) :
    Calls Try.prog 14 #[.agg #[.int .i64 v1, .slice a n ca], .agg #[.int .i64 v2, .slice b m cb]] w fun v w' => v = .returned (.bool B) ∧ Below w.heap.size w w' := by
  have hb0 := (below_box w (.cells #[.int .i64 v1, .slice a n ca] 24)).alloc (by simp) (.cells #[.int .i64 v2, .slice b m cb] 24)
  have hX := (Blk.new w 24 #[.int .i64 v1, .slice a n ca]).alloc (.cells #[.int .i64 v2, .slice b m cb] 24)
  have hY := Blk.new (w.alloc (.cells #[.int .i64 v1, .slice a n ca] 24)) 24 #[.int .i64 v2, .slice b m cb]
  simp only [World.size_alloc] at hY
  unfold sameP at hB
  by_cases hv : v1 = v2
  case neg =>
    rw [decide_eq_false hv, Bool.false_and] at hB
    subst hB
    have e1 : (v1 != v2) = true := by simpa using hv
    have e2 : (v1 == v2) = false := by simpa using hv
    clear hv hn hm
    go_enter Try.func14, Try.ntmps14
    go_wp2
    go_ret
    exact ⟨rfl, hb0⟩
  case pos =>
    subst hv
    rw [decide_eq_true rfl, Bool.true_and] at hB
    have e1 : (v1 != v1) = false := by simp
    by_cases hnm : n = m
    case neg =>
      have hBF : B = false := by rw [← hB]; exact decide_eq_false fun q => hnm (by rw [hn, hm, q])
      subst hBF
      have e3 : ((n : Int) != (m : Int)) = true := by simpa using (fun q => hnm (by omega))
      have e4 : ((n : Int) == (m : Int)) = false := by simpa using (fun q => hnm (by omega))
      clear hnm hn hm hB
      go_enter Try.func14, Try.ntmps14
      go_wp2
      go_ret
      exact ⟨rfl, hb0⟩
    case pos =>
      subst hnm
      have e3 : ((n : Int) != (n : Int)) = false := by simp
      have HN := hide hn
      have HM := hide hm
      have HLL := hide hll
      have HB : Hid (decide (ts.drop 0 = us.drop 0) = B) := hB
      clear hB hn hm hll
      obtain ⟨w0, hw0⟩ : ∃ w0, w0 = (w.alloc (.cells #[.int .i64 v1, .slice a n ca] 24)).alloc (.cells #[.int .i64 v1, .slice b n cb] 24) := ⟨_, rfl⟩
      go_enter Try.func14, Try.ntmps14
      go_wp2
      rw [← hw0] at hb0 hX hY ⊢
      have hz0 : w0.heap.size = w.heap.size + 1 + 1 := by rw [hw0]; simp
      have hat := h.belowN hb0
      have hbt := h'.belowN hb0
      clear hw0
      go_loopw [5] (fun i wr => ∃ k : Nat, i = .int .i64 k ∧ k ≤ n ∧ Hid (decide (ts.drop k = us.drop k) = B) ∧ Below w0.heap.size w0 wr) (fun i _ => n - (intOf i).toNat)
      case atStart => exact ⟨0, rfl, by omega, HB.out, Below.refl _ _⟩
      case round =>
        obtain ⟨k, rfl, hk, hBk, hb⟩ := hrel
        have hzr := hb.size
        obtain ⟨p0, p1, p2, p3⟩ := (hX.belowN hb).c2
        obtain ⟨q0, q1, q2, q3⟩ := (hY.belowN hb).c2
        by_cases hlt : k < n
        · obtain ⟨b1, off1, t, ea, en, ec, rfl, ht, t0, t1, hen, he1, he2, hea⟩ := hat.get hb (k := k) (by rw [← HN.out]; exact hlt)
          obtain ⟨b2, off2, u, fa, fn, fc, rfl, hu, u0, u1, hfn, hf1, hf2, hfa⟩ := hbt.get hb (k := k) (by rw [← HM.out]; exact hlt)
          have hB2 := hBk.out
          rw [drop_at ht.out, drop_at hu.out, dec_cons] at hB2
          have hk0 : (0 : Int) ≤ (k : Int) := by omega
          have hk1 : (k : Int) < (n : Int) := by omega
          have hen6 : en ≤ 1000000 := by rw [hen.out]; exact HLL.out t (List.mem_of_getElem? ht.out)
          have hbx := (below_box wr (.cells #[.int .u64 (t.1.toNat : Int), .slice ea en ec] 57)).alloc (by simp) (.cells #[.int .u64 (u.1.toNat : Int), .slice fa fn fc] 57)
          have hB9 := hb.trans (hbx.mono hzr)
          obtain ⟨r0, r1, r2, r3⟩ := ((Blk.new wr 57 #[.int .u64 (t.1.toNat : Int), .slice ea en ec]).alloc (.cells #[.int .u64 (u.1.toNat : Int), .slice fa fn fc] 57)).c2
          have hS := Blk.new (wr.alloc (.cells #[.int .u64 (t.1.toNat : Int), .slice ea en ec] 57)) 57 #[.int .u64 (u.1.toNat : Int), .slice fa fn fc]
          simp only [World.size_alloc] at hS
          obtain ⟨s0, s1, s2, s3⟩ := hS.c2
          obtain ⟨z0, z1, z2, z3⟩ := (hX.belowN (hb.trans (hbx.mono hzr))).c2
          obtain ⟨y0, y1, y2, y3⟩ := (hY.belowN (hb.trans (hbx.mono hzr))).c2
          obtain ⟨v0, v3, v4, v5⟩ := (hY.belowN (hb.trans ((below_box wr (.cells #[.int .u64 (t.1.toNat : Int), .slice ea en ec] 57)).mono hzr))).c2
          have hu0 : (wr.alloc (.cells #[.int .u64 (t.1.toNat : Int), .slice ea en ec] 57)).cell? ⟨b2, off2 + k * 2, none⟩ = some (.int .u64 (u.1.toNat : Int)) := cell_later (below_box wr _) u0
          have hu1 : (wr.alloc (.cells #[.int .u64 (t.1.toNat : Int), .slice ea en ec] 57)).cell? ⟨b2, off2 + k * 2 + 1, none⟩ = some (.slice fa fn fc) := cell_later (below_box wr _) u1
          by_cases hc : t.1 = u.1
          case neg =>
            have hBF : Hid (B = false) := by show B = false; rw [← hB2, tm_ne1 hc]; rfl
            have e5 := u64_neI hc
            have e6 : ((t.1.toNat : Int) != (u.1.toNat : Int)) = true := by rw [bne, e5]; rfl
            clear hB2 ht hu hc
            go_wp2
            go_ret
            exact ⟨by rw [hBF.out]; rfl, hb0.trans (hB9.mono (by omega))⟩
          case pos =>
            have e5 := u64_eqI hc
            have e6 : ((t.1.toNat : Int) != (u.1.toNat : Int)) = false := by rw [bne, e5]; rfl
            by_cases hen9 : en = fn
            case neg =>
              have hBF : Hid (B = false) := by
                show B = false
                rw [← hB2, tm_ne2 (fun q => hen9 (by rw [hen.out, hfn.out, q]))]; rfl
              have e7 : ((en : Int) != (fn : Int)) = true := by simpa using (fun q => hen9 (by omega))
              have e8 : ((en : Int) == (fn : Int)) = false := by simpa using (fun q => hen9 (by omega))
              clear hB2 ht hu hc hen9
              go_wp2
              go_ret
              exact ⟨by rw [hBF.out]; rfl, hb0.trans (hB9.mono (by omega))⟩
            case pos =>
              have e7 : ((en : Int) != (fn : Int)) = false := by simp [hen9]
              have e8 : ((en : Int) == (fn : Int)) = true := by simp [hen9]
              obtain ⟨R, hR⟩ : ∃ R, ordR t.2 u.2 = R := ⟨_, rfl⟩
              have HO := hide (Order_calls ea fa en fn ec fc t.2 u.2 hen.out hfn.out hen9 _ (hea.belowN hbx) (hfa.belowN hbx) hen6 R hR)
              by_cases hR0 : R = 0
              · have htu : t = u := Prod.ext hc (ordR_eq (by rw [← hen.out, ← hfn.out, hen9]) (by rw [hR, hR0]))
                have HB3 : Hid (decide (ts.drop (k + 1) = us.drop (k + 1)) = B) := by
                  show _ = B
                  rw [← hB2, decide_eq_true htu, Bool.true_and]
                have e9 : (R != 0) = false := by simp [hR0]
                have e10 : (R == 0) = true := by simp [hR0]
                clear hB2 ht hu hc hen9 hR hR0 htu
                go_wp2_with (go_at_call 39; go_must ((with_reducible refine (HO.out).mono ?_); rintro v w5 ⟨rfl, q5, hw5⟩; have hb5 : Below _ _ w5 := hw5 ▸ below_drawn _ wr.heap.size _; clear hw5))
                go_roundw
                case rel => exact ⟨k + 1, by go_num, by omega, HB3.out, hB9.trans (hb5.mono hzr)⟩
                case measure => simp [intOf]; omega
              · have hBF : Hid (B = false) := by
                  show B = false
                  rw [← hB2, tm_ne2 (fun q => hR0 (by rw [← hR, q, ordR_self]))]; rfl
                have e9 : (R != 0) = true := by simpa using hR0
                have e10 : (R == 0) = false := by simpa using hR0
                clear hB2 ht hu hc hen9 hR hR0
                go_wp2_with (go_at_call 39; go_must ((with_reducible refine (HO.out).mono ?_); rintro v w5 ⟨rfl, q5, hw5⟩; have hb5 : Below _ _ w5 := hw5 ▸ below_drawn _ wr.heap.size _; clear hw5))
                go_ret
                exact ⟨by rw [hBF.out]; rfl, hb0.trans ((hB9.trans (hb5.mono hzr)).mono (by omega))⟩
        · obtain rfl : k = n := by omega
          have hB2 := hBk.out
          rw [List.drop_eq_nil_of_le (by rw [← HN.out]; exact Nat.le_refl _), List.drop_eq_nil_of_le (by rw [← HM.out]; exact Nat.le_refl _)] at hB2
          have hBT : Hid (B = true) := by show B = true; rw [← hB2]; rfl
          clear hB2
          go_wp2
          go_ret
          exact ⟨by rw [hBT.out]; rfl, hb0.trans (hb.mono (by omega))⟩
set_option maxHeartbeats 1600000 in
theorem SameClo_calls (t u : Tm) (a b : Option Addr) (n m ca cb : Nat) (hn : n = t.2.length) (hm : m = u.2.length) (w : World) (h : At w a t.2) (h' : At w b u.2) (hl : n ≤ 1000000) (B : Bool) (hB : decide (t = u) = B) :
    Calls Try.prog 45 #[.agg #[.int .u64 (t.1.toNat : Int), .slice a n ca], .agg #[.int .u64 (u.1.toNat : Int), .slice b m cb]] w fun v w' => v = .returned (.bool B) ∧ Below w.heap.size w w' := by
  have hb0 := (below_box w (.cells #[.int .u64 (t.1.toNat : Int), .slice a n ca] 57)).alloc (by simp) (.cells #[.int .u64 (u.1.toNat : Int), .slice b m cb] 57)
  by_cases hc : t.1 = u.1
  case neg =>
    rw [tm_ne1 hc] at hB
    subst hB
    have e5 := u64_neI hc
    have e6 : ((t.1.toNat : Int) != (u.1.toNat : Int)) = true := by rw [bne, e5]; rfl
    clear hc hn hm
    go_enter Try.func45, Try.ntmps45
    go_wp2
    go_ret
    exact ⟨rfl, hb0⟩
  case pos =>
    have e5 := u64_eqI hc
    have hB2 : decide (t.2 = u.2) = B := by
      rw [← hB]
      by_cases q : t.2 = u.2
      · rw [decide_eq_true q, decide_eq_true (Prod.ext hc q)]
      · rw [decide_eq_false q, tm_ne2 q]
    have HE := hide (EqualI_calls a b n m ca cb t.2 u.2 hn hm _ (h.belowN hb0) (h'.belowN hb0) hl B hB2)
    clear hc hn hm hB hB2
    go_enter Try.func45, Try.ntmps45
    go_wp2_with (go_at_call 46; go_must ((with_reducible refine (HE.out).mono ?_); rintro v w5 ⟨rfl, q5, hw5⟩; have hb5 : Below _ _ w5 := hw5 ▸ below_drawn _ w.heap.size _; clear hw5))
    go_ret
    exact ⟨rfl, hb0.trans hb5⟩
set_option maxRecDepth 100000 in
set_option maxHeartbeats 3200000 in
theorem EqualF_calls (a b : Option Addr) (n m ca cb : Nat) (ts us : List Tm) (hn : n = ts.length) (hm : m = us.length) (w : World) (h : AtT w a ts) (h' : AtT w b us) (hl : n ≤ 1000000) (hll : ∀ t ∈ ts, t.2.length ≤ 1000000) (B : Bool) (hB : decide (ts = us) = B) :
    Calls Try.prog 47 #[.slice a n ca, .slice b m cb, .func (.func 45) #[] #[]] w fun v w' => v = .returned (.bool B) ∧ Below w.heap.size w w' := by
  by_cases hnm : n = m
  case neg =>
    have hBF : B = false := by rw [← hB]; exact decide_eq_false fun q => hnm (by rw [hn, hm, q])
    subst hBF
    have e3 : ((n : Int) != (m : Int)) = true := by simpa using (fun q => hnm (by omega))
    have e4 : ((n : Int) == (m : Int)) = false := by simpa using (fun q => hnm (by omega))
    clear hnm hn hm hB
    go_enter Try.func47, Try.ntmps47
    go_wp2
    go_ret
    exact ⟨rfl, Below.refl _ _⟩
  case pos =>
    subst hnm
    have e3 : ((n : Int) != (n : Int)) = false := by simp
    have HN := hide hn
    have HM := hide hm
    have HLL := hide hll
    have HB : Hid (decide (ts.drop 0 = us.drop 0) = B) := hB
    clear hB hn hm hll
    go_enter Try.func47, Try.ntmps47
    go_wp2
    go_loopw [17] (fun i wr => ∃ k : Nat, i = .int .i64 k ∧ k ≤ n ∧ Hid (decide (ts.drop k = us.drop k) = B) ∧ Below w.heap.size w wr) (fun i _ => n - (intOf i).toNat)
    case atStart => exact ⟨0, rfl, by omega, HB.out, Below.refl _ _⟩
    case round =>
      obtain ⟨k, rfl, hk, hBk, hb⟩ := hrel
      have hzr := hb.size
      by_cases hlt : k < n
      · obtain ⟨b1, off1, t, ea, en, ec, rfl, ht, t0, t1, hen, he1, he2, hea⟩ := h.get hb (k := k) (by rw [← HN.out]; exact hlt)
        obtain ⟨b2, off2, u, fa, fn, fc, rfl, hu, u0, u1, hfn, hf1, hf2, hfa⟩ := h'.get hb (k := k) (by rw [← HM.out]; exact hlt)
        have hB2 := hBk.out
        rw [drop_at ht.out, drop_at hu.out, dec_cons] at hB2
        have hk0 : (0 : Int) ≤ (k : Int) := by omega
        have hk1 : (k : Int) < (n : Int) := by omega
        have hen6 : en ≤ 1000000 := by rw [hen.out]; exact HLL.out t (List.mem_of_getElem? ht.out)
        have hbx := (below_box wr (.cells #[.int .u64 (t.1.toNat : Int), .slice ea en ec] 57)).alloc (by simp) (.cells #[.int .u64 (u.1.toNat : Int), .slice fa fn fc] 57)
        have hB9 := hb.trans (hbx.mono hzr)
        have hu0 : (wr.alloc (.cells #[.int .u64 (t.1.toNat : Int), .slice ea en ec] 57)).cell? ⟨b2, off2 + k * 2, none⟩ = some (.int .u64 (u.1.toNat : Int)) := cell_later (below_box wr _) u0
        have hu1 : (wr.alloc (.cells #[.int .u64 (t.1.toNat : Int), .slice ea en ec] 57)).cell? ⟨b2, off2 + k * 2 + 1, none⟩ = some (.slice fa fn fc) := cell_later (below_box wr _) u1
        obtain ⟨r0, r1, r2, r3⟩ := ((Blk.new wr 57 #[.int .u64 (t.1.toNat : Int), .slice ea en ec]).alloc (.cells #[.int .u64 (u.1.toNat : Int), .slice fa fn fc] 57)).c2
        have hS := Blk.new (wr.alloc (.cells #[.int .u64 (t.1.toNat : Int), .slice ea en ec] 57)) 57 #[.int .u64 (u.1.toNat : Int), .slice fa fn fc]
        simp only [World.size_alloc] at hS
        obtain ⟨s0, s1, s2, s3⟩ := hS.c2
        obtain ⟨Q, hQ⟩ : ∃ Q, decide (t = u) = Q := ⟨_, rfl⟩
        have HC := hide (SameClo_calls t u ea fa en fn ec fc hen.out hfn.out _ (hea.belowN hbx) (hfa.belowN hbx) hen6 Q hQ)
        rw [hQ] at hB2
        clear hQ ht hu
        cases Q with
        | false =>
          have hBF : Hid (B = false) := by show B = false; rw [← hB2]; rfl
          clear hB2
          go_wp2_with (go_at_call 45; go_must ((with_reducible refine (HC.out).mono ?_); rintro v w5 ⟨rfl, hb5⟩; have hB5 := hB9.trans (hb5.mono hB9.size)))
          go_ret
          exact ⟨by rw [hBF.out]; rfl, hB5⟩
        | true =>
          rw [Bool.true_and] at hB2
          have HB3 := hide hB2
          clear hB2
          go_wp2_with (go_at_call 45; go_must ((with_reducible refine (HC.out).mono ?_); rintro v w5 ⟨rfl, hb5⟩; have hB5 := hB9.trans (hb5.mono hB9.size)))
          go_roundw
          case rel => exact ⟨k + 1, by go_num, by omega, HB3.out, hB5⟩
          case measure => simp [intOf]; omega
      · obtain rfl : k = n := by omega
        have hB2 := hBk.out
        rw [List.drop_eq_nil_of_le (by rw [← HN.out]; exact Nat.le_refl _), List.drop_eq_nil_of_le (by rw [← HM.out]; exact Nat.le_refl _)] at hB2
        have hBT : Hid (B = true) := by show B = true; rw [← hB2]; rfl
        clear hB2
        go_wp2
        go_ret
        exact ⟨by rw [hBT.out]; rfl, hb⟩
theorem Same_calls (v1 v2 : Int) (a b : Option Addr) (n m ca cb : Nat) (ts us : List Tm) (hn : n = ts.length) (hm : m = us.length) (w : World) (h : AtT w a ts) (h' : AtT w b us) (hl : n ≤ 1000000) (hll : ∀ t ∈ ts, t.2.length ≤ 1000000) (B : Bool) (hB : sameP v1 ts v2 us = B) :
    Calls Try.prog 27 #[.agg #[.int .i64 v1, .slice a n ca], .agg #[.int .i64 v2, .slice b m cb]] w fun v w' => v = .returned (.bool B) ∧ Below w.heap.size w w' := by
  have hb0 := (below_box w (.cells #[.int .i64 v1, .slice a n ca] 24)).alloc (by simp) (.cells #[.int .i64 v2, .slice b m cb] 24)
  unfold sameP at hB
  by_cases hv : v1 = v2
  case neg =>
    rw [decide_eq_false hv, Bool.false_and] at hB
    subst hB
    have e1 : (v1 != v2) = true := by simpa using hv
    have e2 : (v1 == v2) = false := by simpa using hv
    clear hv hn hm
    go_enter Try.func27, Try.ntmps27
    go_wp2
    go_ret
    exact ⟨rfl, hb0⟩
  case pos =>
    subst hv
    rw [decide_eq_true rfl, Bool.true_and] at hB
    have e1 : (v1 == v1) = true := by simp
    have HE := hide (EqualF_calls a b n m ca cb ts us hn hm _ (h.belowN hb0) (h'.belowN hb0) hl hll B hB)
    clear hn hm hB hll
    go_enter Try.func27, Try.ntmps27
    go_wp2_with (go_at_call 47; go_must ((with_reducible refine (HE.out).mono ?_); rintro v w5 ⟨rfl, hb5⟩))
    go_ret
    exact ⟨rfl, hb0.trans (hb5.mono hb0.size)⟩
end Go.Proofs.Ytcamcnahkdiefaa
