/- Chapter 20, the document's answers: right; lists of numbers held against each other. -/
import Derived.Test.YthncfoompoheoaaM20a
import Derived.Test.YthncfoompoheoaaS20c
import Derived.Test.YthncfoompoheoaaQb
namespace Go.Proofs.Ythncfoompoheoaa
set_option linter.unusedVariables false
set_option linter.unusedSimpArgs false
open Go.RowKit
set_option maxHeartbeats 800000 in
theorem Ints7G (a b : Option Addr) (na nb ca cb : Nat) (l m : List Int) (hna : na = l.length) (hnb : nb = m.length) (B : Bool) (hB : decide (l = m) = B) (w : World) (h0 : At w a l) (h1 : At w b m) (hl : na ≤ 1000000000) (hm : nb ≤ 1000000000) :
    Calls Try.prog 21 #[.slice a na ca, .slice b nb cb] w fun e w' => e = .returned (.bool B) ∧ ∃ n, w' = w.drewN n := by
  by_cases hlen : na = nb
  case neg =>
    have hBf : B = false := by rw [← hB]; exact decide_eq_false (fun e => hlen (by rw [hna, hnb, e]))
    have hd : ((na : Int) == (nb : Int)) = false := by simp; omega
    have hd2 : ((na : Int) != (nb : Int)) = true := by simp; omega
    subst hBf
    clear hB hna hnb hlen
    go_enter Try.func21, Try.ntmps21
    go_wp2
    go_ret
    exact ⟨rfl, 0, rfl⟩
  subst hlen
  have HNA := hide hna
  have HNB := hide hnb
  have HB := hide hB
  clear hna hnb hB
  go_enter Try.func21, Try.ntmps21
  go_wp2
  go_loopw [5] (fun i wr => ∃ k : Nat, k ≤ na ∧ i = .int .i64 k ∧ Hid (l.take k = m.take k) ∧ ∃ q, wr = w.drewN q) (fun i _ => na - (intOf i).toNat)
  case atStart => exact ⟨0, by omega, rfl, rfl, ⟨0, rfl⟩⟩
  case round =>
    obtain ⟨k, hk, rfl, htk, q, rfl⟩ := hrel
    by_cases hlt : k < na
    · obtain ⟨b1, off1, x, rfl, hx, hc⟩ := h0.getI (Below.refl _ _) (show k < l.length by have := HNA.out; omega)
      obtain ⟨b2, off2, y, rfl, hy, hd⟩ := h1.getI (Below.refl _ _) (show k < m.length by have := HNB.out; omega)
      by_cases hxy : x = y
      · subst hxy
        have HT := hide (show l.take (k + 1) = m.take (k + 1) by rw [List.take_add_one, List.take_add_one, hx.out, hy.out, htk.out])
        go_wp2
        go_quiet (fail)
        go_wp2
        go_roundw
        case rel => exact ⟨k + 1, by omega, by go_num, HT.out, ⟨_, rfl⟩⟩
        case measure => simp [intOf]; omega
      · have hBf : B = false := by
          rw [← HB.out]
          refine decide_eq_false (fun e => hxy ?_)
          have h9 := hx.out
          rw [e, hy.out] at h9
          exact (Option.some.inj h9).symm
        have HBF := hide hBf
        have e1 : (x == y) = false := by simpa using hxy
        have e2 : (x != y) = true := by simpa using hxy
        clear hBf hxy
        go_wp2
        go_quiet (fail)
        go_wp2
        go_ret
        exact ⟨by rw [HBF.out]; rfl, by first | exact ⟨_, rfl⟩ | exact ⟨_, World.drewN_drewN _ _ _⟩⟩
    · have hkn : k = na := by omega
      have hBt : B = true := by
        rw [← HB.out]
        refine decide_eq_true ?_
        have h9 := htk.out
        rwa [hkn, HNA.out, List.take_length, ← HNA.out, HNB.out, List.take_length] at h9
      have HBT := hide hBt
      have hk2 : na ≤ k := by omega
      clear hkn hBt
      go_wp2
      go_ret
      exact ⟨by rw [HBT.out]; rfl, _, rfl⟩
set_option maxHeartbeats 1600000 in
theorem Right20_calls (regs : Int) (a : Option Addr) (c : Nat) (l : List OpD) (ba ra : Option Addr) (bn bc rn rc : Nat) (bs rs : List Int) (hbn : bn = bs.length) (hrn : rn = rs.length) (B : Bool) (hB : rgt l bs rs = B) (hin : ∀ b ∈ bs, 0 ≤ b ∧ b.toNat < l.length) (hrs : ∀ r ∈ rs, -9223372036854775808 ≤ r ∧ r ≤ 9223372036854775807) (hl : l.length ≤ 4096) (hbl : bn ≤ 1000000) (hrl : rn ≤ 1000000) (w : World) (h : At w a l) (h1 : At w ba bs) (h2 : At w ra rs) :
    Calls Try.prog 66 #[.agg #[.int .i64 regs, .slice a l.length c], .slice ba bn bc, .slice ra rn rc] w fun e w' => e = .returned (.bool B) ∧ Below w.heap.size w w' := by
  have hb0 := below_new12 w (.cells #[.int .i64 regs, .slice a l.length c] 24)
  have hX := Blk.new w 24 #[.int .i64 regs, .slice a l.length c]
  have g0 := h.belowN hb0
  have g1 := h1.belowN hb0
  have g2 := h2.belowN hb0
  by_cases hbr : bn = rn
  case neg =>
    have hBf : B = false := by
      rw [← hB]
      cases hq : rgt l bs rs with
      | false => rfl
      | true => exact absurd (by rw [hbn, hrn, rgt_length hq]) hbr
    have hd : ((bn : Int) == (rn : Int)) = false := by simp; omega
    have hd2 : ((bn : Int) != (rn : Int)) = true := by simp; omega
    subst hBf
    clear hB hin hrs hbn hrn
    go_enter Try.func66, Try.ntmps66
    go_wp2
    go_ret
    exact ⟨rfl, hb0⟩
  subst hbr
  have HBN := hide hbn
  have HRN := hide hrn
  have HB := hide hB
  have HIN := hide hin
  have HRS := hide hrs
  clear hbn hrn hB hin hrs h h1 h2
  obtain ⟨w1, hw1⟩ : ∃ w1, w1 = w.alloc (.cells #[.int .i64 regs, .slice a l.length c] 24) := ⟨_, rfl⟩
  rw [← hw1] at hb0 hX g0 g1 g2
  have HW1 := hide hw1.symm
  obtain ⟨p0, p1, p2, p3⟩ := hX.c2
  clear hw1
  go_enter Try.func66, Try.ntmps66
  go_wp2
  rw [HW1.out]
  go_loopw [7] (fun iv wr => ∃ k : Nat, iv = .int .i64 k ∧ k ≤ bn ∧ Hid (rgt l (bs.drop k) (rs.drop k) = B) ∧ ∃ d, wr = w1.drewN d) (fun iv _ => bn - (intOf iv).toNat)
  case atStart => exact ⟨0, rfl, by omega, HB.out, 0, rfl⟩
  case round =>
    obtain ⟨k, rfl, hk, hB, d, rfl⟩ := hrel
    by_cases hkn : k < bn
    · obtain ⟨b1, off1, x, hba, hx, c0⟩ := g1.getI (Below.refl _ _) (by rw [← HBN.out]; exact hkn)
      subst hba
      obtain ⟨b2, off2, y, hba, hy, d0⟩ := g2.getI (Below.refl _ _) (by rw [← HRN.out]; exact hkn)
      subst hba
      obtain ⟨x0, x1⟩ := HIN.out x (List.mem_of_getElem? hx.out)
      obtain ⟨y0, y1⟩ := HRS.out y (List.mem_of_getElem? hy.out)
      obtain ⟨xn, rfl⟩ := Int.eq_ofNat_of_zero_le x0
      simp only [Int.ofNat_eq_natCast, Int.toNat_natCast] at *
      obtain ⟨b3, off3, op, hba, ho, o0, o1, o2, o3, o4⟩ := g0.getOp (Below.refl _ _) x1
      subst hba
      have hB2 := hB.out
      rw [drop_at hx.out, drop_at hy.out, rgt] at hB2
      have hv : vAt l (xn : Int) = op.v := by unfold vAt; simp only [Int.toNat_natCast]; rw [ho.out]; rfl
      rw [hv] at hB2
      have hv2 := op.v.toNat_lt
      obtain ⟨V, hV⟩ : ∃ V, V = op.v.toNat := ⟨_, rfl⟩
      rw [← hV] at o4 hB2 hv2
      have i0 : (0 : Int) ≤ (k : Int) := by omega
      have i1 : (k : Int) < (bn : Int) := by omega
      have i3 : (xn : Int) < (l.length : Int) := by omega
      have HB2 := hide hB2
      clear hx hy ho hB2 hv hV hB
      rcases Int.lt_or_le y 0 with hy0 | hy0
      · have e1 : decide (y < 0) = true := by simpa using hy0
        have HF : Hid (B = false) := by show B = false; rw [← HB2.out, decide_eq_false (by omega)]; rfl
        go_wp2
        go_quiet (fail)
        go_wp2
        go_ret
        exact ⟨by rw [HF.out]; rfl, by first | exact below_drewN hb0 _ | exact below_drewN (below_drewN hb0 _) _⟩
      · have e1 : decide (y < 0) = false := by simpa using hy0
        have e4 : IntKind.u64.wrap y = y := IntWalk.u64_in _ (by omega)
        rcases Int.lt_or_le y V with hyv | hyv
        · have e2 : decide ((V : Int) ≤ y) = false := by simpa using hyv
          have HF : Hid (rgt l (bs.drop (k + 1)) (rs.drop (k + 1)) = B) := by show _ = B; rw [← HB2.out, decide_eq_true hy0, decide_eq_true hyv]; rfl
          go_wp2
          go_quiet (fail)
          go_wp2
          go_roundw
          case rel => exact ⟨k + 1, by go_num, by omega, HF.out, _, rfl⟩
          case measure => simp [intOf]; omega
        · have e2 : decide ((V : Int) ≤ y) = true := by simpa using hyv
          have HF : Hid (B = false) := by show B = false; rw [← HB2.out, decide_eq_false (show ¬ y < (V : Int) by omega)]; simp
          go_wp2
          go_quiet (fail)
          go_wp2
          go_ret
          exact ⟨by rw [HF.out]; rfl, by first | exact below_drewN hb0 _ | exact below_drewN (below_drewN hb0 _) _⟩
    · have HT : Hid (B = true) := by
        show B = true
        rw [← hB.out, show k = bn by omega]
        have e1 := HBN.out
        have e2 := HRN.out
        rw [List.drop_eq_nil_of_le (by omega), List.drop_eq_nil_of_le (by omega)]
        rfl
      go_wp2
      go_ret
      exact ⟨by rw [HT.out]; rfl, below_drewN hb0 _⟩
end Go.Proofs.Ythncfoompoheoaa
