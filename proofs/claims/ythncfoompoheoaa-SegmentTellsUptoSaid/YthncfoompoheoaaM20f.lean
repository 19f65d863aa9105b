/- Chapter 20, the document's answers: before. -/
import Derived.Test.YthncfoompoheoaaM20c
import Derived.Test.YthncfoompoheoaaSo
namespace Go.Proofs.Ythncfoompoheoaa
set_option linter.unusedVariables false
set_option linter.unusedSimpArgs false
open Go.RowKit
theorem bef_cons_eq (q : Int) (own : List Int) (x : Int) (P : List Int) (y : Int) (r : List Int) (z : Int) (rs : List Int) : bef (q :: own) x (q :: P) (y :: r) (z :: rs) = if y = z then bef own x P r rs else decide (y < z) := by
  by_cases h : y = z <;> simp [bef, h]
set_option maxRecDepth 100000 in
set_option maxHeartbeats 6400000 in
theorem Before20_calls (regs : Int) (a : Option Addr) (c : Nat) (l : List OpD) (ma : Option Addr) (mn mc : Nat) (xi : Int) (xa : Option Addr) (xn xc : Nat) (r : List Int) (hxn : xn = r.length) (i : Int) (ra : Option Addr) (rn rc : Nat) (rs : List Int) (hrn : rn = rs.length) (bs ow : List Int)
    (hA : aroundS l i = (bs, 0)) (hO : aroundS l xi = (ow, 0)) (bn on : Nat) (hbn : bn = bs.length) (hon : on = ow.length) (hpn : bn + 1 = rn) (hor : on ≤ xn) (hbl : bn ≤ 100000) (hol : on ≤ 100000) (hxl : xn ≤ 100000) (B : Bool) (hB : bef ow xi (bs ++ [i]) r rs = B)
    (w : World) (h : At w a l) (hl : l.length ≤ 1000000) (hx : At w xa r) (hr : At w ra rs) (hi1 : -9223372036854775808 ≤ i) (hi2 : i ≤ 9223372036854775807) (hx1 : -9223372036854775808 ≤ xi) (hx2 : xi ≤ 9223372036854775807) :
    Calls Try.prog 73 #[.agg #[.int .i64 regs, .slice a l.length c], .slice ma mn mc, .agg #[.int .i64 xi, .slice xa xn xc], .int .i64 i, .slice ra rn rc] w fun e w' => e = .returned (.bool B) ∧ Below w.heap.size w w' := by
  have hb1 := below_new12 w (.cells #[.int .i64 regs, .slice a l.length c] 24)
  have hX := Blk.new w 24 #[.int .i64 regs, .slice a l.length c]
  have hb2 := below_new12 (w.alloc (.cells #[.int .i64 regs, .slice a l.length c] 24)) (.cells #[.int .i64 xi, .slice xa xn xc] 117)
  have hM := Blk.new (w.alloc (.cells #[.int .i64 regs, .slice a l.length c] 24)) 117 #[.int .i64 xi, .slice xa xn xc]
  have hb0 := hb1.trans (hb2.mono hb1.size)
  have hX0 := hX.belowN hb2
  have h1 := h.belowN hb0
  have hx0 := hx.belowN hb0
  have hr0 := hr.belowN hb0
  have hszA : (w.alloc (.cells #[.int .i64 regs, .slice a l.length c] 24)).heap.size = w.heap.size + 1 := by simp
  rw [hszA] at hM
  obtain ⟨p0, p1, p2, p3⟩ := hX0.c2
  obtain ⟨m0, m1, m2, m3⟩ := hM.c2
  have HA := hide hA
  have HO := hide hO
  have HBN := hide hbn
  have HON := hide hon
  have HXN := hide hxn
  have HRN := hide hrn
  have HB := hide hB
  have HPN : Hid (bn + 1 = (bs ++ [i]).length) := by show _ = _; rw [List.length_append, ← hbn]; rfl
  obtain ⟨P, hP⟩ : ∃ P, bs ++ [i] = P := ⟨_, rfl⟩
  have HP := hide hP
  rw [hP] at HB HPN
  clear hA hO hbn hon hxn hrn hB hX hb1 hb2 hszA hP
  go_enter Try.func73, Try.ntmps73
  go_wp2_with (first
    | (go_at_call 64; have hgd := hoA; go_must ((with_reducible refine (Around8N a c l xi _ (h1.belowN hC2) hl hx1 hx2 ow 0 on HO.out HON.out).mono ?_); rintro e w3 ⟨a3, c3, rfl, howO, hb3⟩; have hC3 := hC2.trans (hb3.mono hC2.size)))
    | (go_at_call 64; go_must ((with_reducible refine (Around8N a c l i _ h1 hl hi1 hi2 bs 0 bn HA.out HBN.out).mono ?_); rintro e w1 ⟨a1, c1, rfl, howA, hC1⟩))
    | (go_at_call 71; go_must ((with_reducible refine (With20_calls a1 bn c1 bs HBN.out i w1 howA.at_ (by omega)).mono ?_); rw [HP.out]; rintro e w2 ⟨a2, c2, rfl, hoA, hb2⟩; have hC2 := hC1.trans (hb2.mono hC1.size); obtain ⟨p0, p1, p2, p3⟩ := (hX0.belowN hC2).c2; obtain ⟨m0, m1, m2, m3⟩ := (hM.belowN hC2).c2)))
  have hP3 := (hoA.belowN hb3).at_
  have hO3 := howO.at_
  have hX3 := hx0.belowN hC3
  have hR3 := hr0.belowN hC3
  have hM3 := hM.belowN hC3
  have hz3 := hC3.size
  go_loopw [15] (fun kv wr => ∃ k : Nat, kv = .int .i64 k ∧ k ≤ bn + 1 ∧ Hid (bef (ow.drop k) xi (P.drop k) (r.drop k) (rs.drop k) = B) ∧ Below w3.heap.size w3 wr) (fun kv _ => bn + 1 - (intOf kv).toNat)
  case atStart => exact ⟨0, rfl, by omega, HB.out, Below.refl _ _⟩
  case round =>
    obtain ⟨k, rfl, hk, hBk, hb⟩ := hrel
    have hzr := hb.size
    by_cases hlt : k < bn + 1
    · obtain ⟨bp, op', p, rfl, hp, cp⟩ := hP3.getI hb (show k < P.length by have := HPN.out; omega)
      have hBB := hBk.out
      rw [drop_at hp.out] at hBB
      have i4 : (0 : Int) ≤ (k : Int) := by omega
      have i5 : (k : Int) < ((bn + 1 : Nat) : Int) := by omega
      obtain ⟨m0, m1, m2, m3⟩ := (hM3.belowN hb).c2
      by_cases hko : k < on
      · obtain ⟨bo, oo, q, rfl, hq, cq⟩ := hO3.getI hb (show k < ow.length by have := HON.out; omega)
        rw [drop_at hq.out] at hBB
        have i6 : (k : Int) < (on : Int) := by omega
        by_cases hqp : q = p
        · subst hqp
          obtain ⟨bx, ox, y, rfl, hy, cy⟩ := hX3.getI hb (show k < r.length by have := HXN.out; omega)
          obtain ⟨br, or, z, rfl, hz, cz⟩ := hR3.getI hb (show k < rs.length by have := HRN.out; omega)
          have i7 : (k : Int) < (xn : Int) := by omega
          have i8 : (k : Int) < (rn : Int) := by omega
          rw [drop_at hy.out, drop_at hz.out, bef_cons_eq] at hBB
          by_cases hyz : y = z
          · subst hyz
            rw [if_pos rfl] at hBB
            have HB2 := hide hBB
            clear hBB
            go_wp2
            go_quiet (fail)
            go_wp2
            go_quiet (fail)
            go_wp2
            go_roundw
            case rel => exact ⟨k + 1, by go_num, by omega, HB2.out, by first | exact below_drewN hb _ | exact below_drewN (below_drewN hb _) _⟩
            case measure => simp [intOf]; omega
          · rw [if_neg hyz] at hBB
            have HB2 := hide hBB
            have e1 : (y == z) = false := by simpa using hyz
            have e2 : (y != z) = true := by simpa using hyz
            clear hBB hyz
            go_wp2
            go_quiet (fail)
            go_wp2
            go_quiet (fail)
            go_wp2
            go_quiet (fail)
            go_wp2
            go_ret
            exact ⟨by first | (rw [HB2.out]; rfl) | rw [HB2.out], hb0.trans ((hC3.trans ((by first | exact below_drewN hb _ | exact below_drewN (below_drewN hb _) _ | exact below_drewN (below_drewN (below_drewN hb _) _) _ : Below w3.heap.size w3 _).mono hz3)).mono hb0.size)⟩
        · rw [bef, if_pos hqp] at hBB
          have HB2 := hide hBB
          have e1 : (q == p) = false := by simpa using hqp
          have e2 : (q != p) = true := by simpa using hqp
          clear hBB hqp
          go_wp2
          go_quiet (fail)
          go_wp2
          go_ret
          exact ⟨by first | (rw [HB2.out]; rfl) | rw [HB2.out], hb0.trans ((hC3.trans ((below_drewN hb _).mono hz3)).mono hb0.size)⟩
      · rw [List.drop_of_length_le (by have := HON.out; omega), bef] at hBB
        have HB2 := hide hBB
        have i6 : (on : Int) ≤ (k : Int) := by omega
        have hd : decide ((on : Int) ≤ (k : Int)) = true := decide_eq_true i6
        clear hBB
        go_wp2
        go_quiet (fail)
        go_wp2
        go_ret
        exact ⟨by first | (rw [HB2.out]; rfl) | rw [HB2.out], hb0.trans ((hC3.trans ((below_drewN hb _).mono hz3)).mono hb0.size)⟩
    · have hBB := hBk.out
      rw [List.drop_of_length_le (l := P) (by have := HPN.out; omega)] at hBB
      have hB9 : B = false := by rw [← hBB]; cases (ow.drop k) <;> rfl
      subst hB9
      clear hBB
      go_wp2
      go_ret
      exact ⟨rfl, hb0.trans ((hC3.trans (hb.mono hz3)).mono hb0.size)⟩
end Go.Proofs.Ythncfoompoheoaa
