/- Chapter 14: ref14.Along, whole. -/
import Derived.Test.YthncfoompoheoaaDb
namespace Go.Proofs.Ythncfoompoheoaa
set_option linter.unusedVariables false
set_option linter.unusedSimpArgs false
open Go.RowKit
def lenV (v : Value) : Nat := match v with | .slice _ n _ => n | _ => 0
theorem startD_snoc {n : Nat} {L : List DuD} (h : L.length ≤ n) : startD n L ++ [⟨0, 0⟩] = startD (n + 1) L := by
  unfold startD
  rw [List.append_assoc, ← List.replicate_succ', show n + 1 - L.length = n - L.length + 1 by omega]
theorem startD_same {n i : Nat} {L : List DuD} (h1 : L.length ≤ n) (h2 : i + 1 ≤ n) (h3 : n ≤ max (i + 1) L.length) : startD n L = startD (i + 1) L := by
  by_cases h : L.length ≤ i + 1
  · rw [show n = i + 1 by omega]
  · unfold startD
    rw [show n - L.length = 0 by omega, show i + 1 - L.length = 0 by omega]
theorem map_d_snoc {L : List DuD} {k : Nat} {x : DuD} (h : L[k]? = some x) : (L.take k).map (·.d) ++ [x.d] = (L.take (k + 1)).map (·.d) := by
  rw [List.take_add_one, h]; simp
set_option maxRecDepth 100000 in
set_option maxHeartbeats 3200000 in
theorem Along_arg1 (regs : Int) (a : Option Addr) (c ln : Nat) (l : List OpD) (hln : ln = l.length) (ra : Option Addr) (rn rc : Nat) (r : List UInt64) (hrn : rn = r.length) (i : Int) (hE : dualE regs l rn = 0) (hi : i < 0) (w : World) (h : At w a l) (hl : ln ≤ 1000000) (hr : At w ra r) (hrb : rn ≤ 1000000) :
    Calls Try.prog 35 #[.agg #[.int .i64 regs, .slice a ln c], .slice ra rn rc, .int .i64 i] w fun e w' => e = .returned (.tuple #[.slice none 0 0, .int .i64 2]) ∧ Below w.heap.size w w' := by
  have hb0 := below_new12 w (.cells #[.int .i64 regs, .slice a ln c] 24)
  have hX := Blk.new w 24 #[.int .i64 regs, .slice a ln c]
  have g1 := h.belowN hb0
  have hr1 := hr.belowN hb0
  have HRN := hide hrn
  have HLN := hide hln
  obtain ⟨A, hA⟩ : ∃ A, dualR regs l (ofWords r) = A := ⟨_, rfl⟩
  have HA := hide hA
  clear hA hrn hln
  obtain ⟨w1, hw1⟩ : ∃ w1, w1 = w.alloc (.cells #[.int .i64 regs, .slice a ln c] 24) := ⟨_, rfl⟩
  rw [← hw1] at hb0 hX g1 hr1
  have hz1l : w1.heap.size ≤ w.heap.size + 1 := by rw [hw1]; simp
  have hz1r : w.heap.size + 1 ≤ w1.heap.size := by rw [hw1]; simp
  have HW1 := hide hw1.symm
  clear hw1
  have HE := hide hE
  clear hE
  go_enter Try.func35, Try.ntmps35
  go_wp2
  rw [HW1.out]
  clear HW1
  go_loopw [8, 9] (fun bv iv wr => ∃ (k : Nat) (ab : Option Addr) (cb : Nat), iv = .int .i64 k ∧ k ≤ rn ∧ bv = .slice ab k cb ∧ Own wr w1.heap.size 92 ab cb (ofWords (r.take k)) ∧ Below w1.heap.size w1 wr) (fun _ iv _ => rn - (intOf iv).toNat)
  case atStart => exact ⟨0, _, 0, rfl, by omega, rfl, by have h := Own.new w1 (Nat.le_refl _) 92 DuD; rw [show w1.heap.size = w.heap.size + 1 by omega] at h ⊢; exact h, below_new12 w1 _⟩
  case round =>
    obtain ⟨k, ab, cb, rfl, hk, rfl, hB, hb⟩ := hrel
    have hzr := hb.size
    by_cases hlt : k < rn
    · obtain ⟨b1, off1, x, rfl, hx, c0⟩ := hr1.getU hb (show k < r.length by have := HRN.out; omega)
      have HX := hide (show ofWords (r.take k) ++ [(⟨x, 0⟩ : DuD)] = ofWords (r.take (k + 1)) by rw [List.take_add_one, hx.out]; simp [ofWords])
      have HKL := hide (show k = (ofWords (r.take k)).length by have := HRN.out; rw [ofWords_length, List.length_take]; omega)
      go_wp2_with (at_builtin; refine wpList_push tyD hB (⟨x, 0⟩ : DuD) rfl rfl rfl rfl rfl rfl HKL.out hzr (by omega) ?_; intro a8 c8 w8 hown8 hg8 _)
      go_roundw
      case rel => exact ⟨k + 1, a8, c8, by go_num, by omega, rfl, by rw [← HX.out]; exact hown8, below_push hb hB hg8 hzr⟩
      case measure => simp [intOf] <;> omega
    · have hkn : k = rn := by omega
      subst hkn
      rw [show r.take k = r by rw [HRN.out, List.take_length]] at hB
      have HOL := hide (show k = (ofWords r).length by rw [ofWords_length, HRN.out])
      clear hlt hk
      obtain ⟨q0, q1, q2, q3⟩ := (hX.belowN hb).c2
      go_wp2_with (go_at_call 31; go_must ((with_reducible refine (Run14_calls regs a c ln l HLN.out ab k cb (ofWords r) HOL.out A 0 HA.out HE.out wr (g1.belowN hb) (by omega) hB.at_).mono ?_); rintro e w2 ⟨a2, c2, rfl, hown2, hb2⟩; have hC2 := hb.trans (hb2.mono hb.size); obtain ⟨q0, q1, q2, q3⟩ := (hX.belowN hC2).c2))
      go_ret2
      exact ⟨rfl, hb0.trans (hC2.mono hb0.size)⟩
set_option maxRecDepth 100000 in
set_option maxHeartbeats 3200000 in
theorem Along_arg2 (regs : Int) (a : Option Addr) (c ln : Nat) (l : List OpD) (hln : ln = l.length) (ra : Option Addr) (rn rc : Nat) (r : List UInt64) (hrn : rn = r.length) (i : Int) (hE : dualE regs l rn = 0) (hi0 : 0 ≤ i) (hi : regs ≤ i) (w : World) (h : At w a l) (hl : ln ≤ 1000000) (hr : At w ra r) (hrb : rn ≤ 1000000) :
    Calls Try.prog 35 #[.agg #[.int .i64 regs, .slice a ln c], .slice ra rn rc, .int .i64 i] w fun e w' => e = .returned (.tuple #[.slice none 0 0, .int .i64 2]) ∧ Below w.heap.size w w' := by
  have hb0 := below_new12 w (.cells #[.int .i64 regs, .slice a ln c] 24)
  have hX := Blk.new w 24 #[.int .i64 regs, .slice a ln c]
  have g1 := h.belowN hb0
  have hr1 := hr.belowN hb0
  have HRN := hide hrn
  have HLN := hide hln
  obtain ⟨A, hA⟩ : ∃ A, dualR regs l (ofWords r) = A := ⟨_, rfl⟩
  have HA := hide hA
  clear hA hrn hln
  obtain ⟨w1, hw1⟩ : ∃ w1, w1 = w.alloc (.cells #[.int .i64 regs, .slice a ln c] 24) := ⟨_, rfl⟩
  rw [← hw1] at hb0 hX g1 hr1
  have hz1l : w1.heap.size ≤ w.heap.size + 1 := by rw [hw1]; simp
  have hz1r : w.heap.size + 1 ≤ w1.heap.size := by rw [hw1]; simp
  have HW1 := hide hw1.symm
  clear hw1
  have HE := hide hE
  clear hE
  go_enter Try.func35, Try.ntmps35
  go_wp2
  rw [HW1.out]
  clear HW1
  go_loopw [8, 9] (fun bv iv wr => ∃ (k : Nat) (ab : Option Addr) (cb : Nat), iv = .int .i64 k ∧ k ≤ rn ∧ bv = .slice ab k cb ∧ Own wr w1.heap.size 92 ab cb (ofWords (r.take k)) ∧ Below w1.heap.size w1 wr) (fun _ iv _ => rn - (intOf iv).toNat)
  case atStart => exact ⟨0, _, 0, rfl, by omega, rfl, by have h := Own.new w1 (Nat.le_refl _) 92 DuD; rw [show w1.heap.size = w.heap.size + 1 by omega] at h ⊢; exact h, below_new12 w1 _⟩
  case round =>
    obtain ⟨k, ab, cb, rfl, hk, rfl, hB, hb⟩ := hrel
    have hzr := hb.size
    by_cases hlt : k < rn
    · obtain ⟨b1, off1, x, rfl, hx, c0⟩ := hr1.getU hb (show k < r.length by have := HRN.out; omega)
      have HX := hide (show ofWords (r.take k) ++ [(⟨x, 0⟩ : DuD)] = ofWords (r.take (k + 1)) by rw [List.take_add_one, hx.out]; simp [ofWords])
      have HKL := hide (show k = (ofWords (r.take k)).length by have := HRN.out; rw [ofWords_length, List.length_take]; omega)
      go_wp2_with (at_builtin; refine wpList_push tyD hB (⟨x, 0⟩ : DuD) rfl rfl rfl rfl rfl rfl HKL.out hzr (by omega) ?_; intro a8 c8 w8 hown8 hg8 _)
      go_roundw
      case rel => exact ⟨k + 1, a8, c8, by go_num, by omega, rfl, by rw [← HX.out]; exact hown8, below_push hb hB hg8 hzr⟩
      case measure => simp [intOf] <;> omega
    · have hkn : k = rn := by omega
      subst hkn
      rw [show r.take k = r by rw [HRN.out, List.take_length]] at hB
      have HOL := hide (show k = (ofWords r).length by rw [ofWords_length, HRN.out])
      clear hlt hk
      obtain ⟨q0, q1, q2, q3⟩ := (hX.belowN hb).c2
      go_wp2_with (go_at_call 31; go_must ((with_reducible refine (Run14_calls regs a c ln l HLN.out ab k cb (ofWords r) HOL.out A 0 HA.out HE.out wr (g1.belowN hb) (by omega) hB.at_).mono ?_); rintro e w2 ⟨a2, c2, rfl, hown2, hb2⟩; have hC2 := hb.trans (hb2.mono hb.size); obtain ⟨q0, q1, q2, q3⟩ := (hX.belowN hC2).c2))
      go_ret2
      exact ⟨rfl, hb0.trans (hC2.mono hb0.size)⟩
set_option maxRecDepth 100000 in
set_option maxHeartbeats 6400000 in
theorem Along_good (nr : Nat) (a : Option Addr) (c ln : Nat) (l : List OpD) (hln : ln = l.length) (ra : Option Addr) (rn rc : Nat) (r : List UInt64) (hrn : rn = r.length) (i : Nat) (f : Fo) (hf : l = f.flat) (g : Good nr f) (h1 : rn ≤ nr) (hi : i < nr) (w : World) (h : At w a l) (hr : At w ra r) :
    Calls Try.prog 35 #[.agg #[.int .i64 (nr : Int), .slice a ln c], .slice ra rn rc, .int .i64 (i : Int)] w fun e w' => ∃ a' c', e = .returned (.tuple #[.slice a' nr c', .int .i64 0]) ∧ Own w' w.heap.size 68 a' c' (alongA nr l r i) ∧ Below w.heap.size w w' := by
  have r2 : nr ≤ 64 := by have := g.r2; omega
  have hl : ln ≤ 4096 := by rw [hln, hf]; exact g.len
  have hE : dualE nr l rn = 0 := by rw [hf]; exact dualE_of g (by omega)
  obtain ⟨j1, j2, j3, j4⟩ := along_run g (r := r) (i := i) (by omega) hi
  rw [← hf] at j1 j2 j3
  obtain ⟨OUT, hOUT⟩ : ∃ OUT, alongA nr l r i = OUT := ⟨_, rfl⟩
  rw [hOUT] at j3 ⊢
  obtain ⟨A2, hA2⟩ : ∃ A2, dualR nr l (alongL r i) = A2 := ⟨_, rfl⟩
  rw [hA2] at j2 j3
  have hln2 := alongL_len r i
  have HJ1 := hide j1
  have HJ2 := hide j2.symm
  have HJ3 := hide j3
  have HA2 := hide hA2
  have HE := hide hE
  have HL2 := hide hln2
  clear g hf j1 j2 j3 j4 hOUT hA2 hE hln2
  obtain ⟨v0, hv0⟩ : ∃ v0, (r[i]?).getD 0 = v0 := ⟨_, rfl⟩
  have HV0 := hide hv0
  clear hv0
  have hb0 := below_new12 w (.cells #[.int .i64 (nr : Int), .slice a ln c] 24)
  have hX := Blk.new w 24 #[.int .i64 (nr : Int), .slice a ln c]
  have g1 := h.belowN hb0
  have hr1 := hr.belowN hb0
  have HRN := hide hrn
  have HLN := hide hln
  obtain ⟨A, hA⟩ : ∃ A, dualR (nr : Int) l (ofWords r) = A := ⟨_, rfl⟩
  have HA := hide hA
  clear hA hrn hln
  obtain ⟨w1, hw1⟩ : ∃ w1, w1 = w.alloc (.cells #[.int .i64 (nr : Int), .slice a ln c] 24) := ⟨_, rfl⟩
  rw [← hw1] at hb0 hX g1 hr1
  have hz1l : w1.heap.size ≤ w.heap.size + 1 := by rw [hw1]; simp
  have hz1r : w.heap.size + 1 ≤ w1.heap.size := by rw [hw1]; simp
  have HW1 := hide hw1.symm
  clear hw1
  go_enter Try.func35, Try.ntmps35
  go_wp2
  rw [HW1.out]
  clear HW1
  go_loopw [8, 9] (fun bv iv wr => ∃ (k : Nat) (ab : Option Addr) (cb : Nat), iv = .int .i64 k ∧ k ≤ rn ∧ bv = .slice ab k cb ∧ Own wr w1.heap.size 92 ab cb (ofWords (r.take k)) ∧ Below w1.heap.size w1 wr) (fun _ iv _ => rn - (intOf iv).toNat)
  case atStart => exact ⟨0, _, 0, rfl, by omega, rfl, by have h := Own.new w1 (Nat.le_refl _) 92 DuD; rw [show w1.heap.size = w.heap.size + 1 by omega] at h ⊢; exact h, below_new12 w1 _⟩
  case round =>
    obtain ⟨k, ab, cb, rfl, hk, rfl, hB, hb⟩ := hrel
    have hzr := hb.size
    by_cases hlt : k < rn
    · obtain ⟨b1, off1, x, rfl, hx, c0⟩ := hr1.getU hb (show k < r.length by have := HRN.out; omega)
      have HX := hide (show ofWords (r.take k) ++ [(⟨x, 0⟩ : DuD)] = ofWords (r.take (k + 1)) by rw [List.take_add_one, hx.out]; simp [ofWords])
      have HKL := hide (show k = (ofWords (r.take k)).length by have := HRN.out; rw [ofWords_length, List.length_take]; omega)
      go_wp2_with (at_builtin; refine wpList_push tyD hB (⟨x, 0⟩ : DuD) rfl rfl rfl rfl rfl rfl HKL.out hzr (by omega) ?_; intro a8 c8 w8 hown8 hg8 _)
      go_roundw
      case rel => exact ⟨k + 1, a8, c8, by go_num, by omega, rfl, by rw [← HX.out]; exact hown8, below_push hb hB hg8 hzr⟩
      case measure => simp [intOf] <;> omega
    · have hkn : k = rn := by omega
      subst hkn
      rw [show r.take k = r by rw [HRN.out, List.take_length]] at hB
      have HOL := hide (show k = (ofWords r).length by rw [ofWords_length, HRN.out])
      clear hlt hk
      obtain ⟨q0, q1, q2, q3⟩ := (hX.belowN hb).c2
      go_wp2_with (go_at_call 31; go_must ((with_reducible refine (Run14_calls nr a c ln l HLN.out ab k cb (ofWords r) HOL.out A 0 HA.out HE.out wr (g1.belowN hb) (by omega) hB.at_).mono ?_); rintro e w2 ⟨a2, c2, rfl, hown2, hb2⟩; have hC2 := hb.trans (hb2.mono hb.size); have hB2 := hB.belowN hb2; obtain ⟨q0, q1, q2, q3⟩ := (hX.belowN hC2).c2))
      have hz2 := hC2.size
      have hoL : (ofWords r).length = k := HOL.out.symm
      have hst : startD k (ofWords r) = ofWords r := by unfold startD; rw [hoL, Nat.sub_self]; simp
      rw [← hst] at hB2
      have HOW := hide hoL
      clear hst hoL hB hown2
      go_loopw [8] (fun bv wr => ∃ (n : Nat) (ab : Option Addr) (cb : Nat), bv = .slice ab n cb ∧ k ≤ n ∧ n ≤ max (i + 1) k ∧ n ≤ nr ∧ Own wr w1.heap.size 92 ab cb (startD n (ofWords r)) ∧ Below w1.heap.size w1 wr) (fun bv _ => i + 1 - lenV bv)
      case atStart => exact ⟨k, ab, cb, rfl, by omega, by omega, by omega, hB2, hC2⟩
      case round =>
        obtain ⟨n, ab', cb', rfl, hn1, hn2, hn3, hBn, hbn⟩ := hrel
        have hzn := hbn.size
        have hnL : (startD n (ofWords r)).length = n := startD_length _ _ (by have := HOW.out; omega)
        by_cases hlt : n ≤ i
        · have HKL := hide hnL.symm
          have HXS := hide (startD_snoc (n := n) (L := ofWords r) (by have := HOW.out; omega))
          clear hnL
          go_wp2_with (at_builtin; refine wpList_push tyD hBn (⟨0, 0⟩ : DuD) rfl rfl rfl rfl rfl rfl HKL.out hzn (by omega) ?_; intro a8 c8 w8 hown8 hg8 _)
          go_roundw
          case rel => exact ⟨n + 1, a8, c8, ⟨rfl, rfl, rfl⟩, by omega, by omega, by omega, by rw [← HXS.out]; exact hown8, below_push hbn hBn hg8 hzn⟩
          case measure => simp [lenV] <;> omega
        · have hin : i < n := by omega
          rw [startD_same (i := i) (by have := HOW.out; omega) (by omega) (by have := HOW.out; omega)] at hBn hnL
          have hx : (startD (i + 1) (ofWords r))[i]? = some ⟨v0, 0⟩ := by
            rw [startD_get, ofWords_get, ofWords_length, ← HV0.out]
            by_cases h9 : i < r.length
            · rw [if_pos h9, List.getElem?_eq_getElem h9]; rfl
            · rw [if_neg h9, if_pos (by omega), List.getElem?_eq_none (by omega)]; rfl
          obtain ⟨gd, hab, hgd1, hgd2⟩ := hBn.some_ (fun e => by rw [e] at hnL; simp at hnL; omega)
          subst hab
          have hs := hBn.setAt i 1 ⟨v0, 1⟩ ⟨v0, 0⟩ (.int .u64 1) hx (by decide) rfl
          have e3 : (startD (i + 1) (ofWords r)).set i ⟨v0, 1⟩ = alongL r i := by unfold alongL; rw [HV0.out]
          rw [e3] at hs
          have d1 := hBn.cellAt hx (f := 1) rfl
          have d3 := hBn.frozen (i * 2 + 1)
          simp only [Flat.n] at d1 hs
          have hbs := hbn.setCell (p := ⟨gd, i * 2 + 1, none⟩) (by simpa using hgd1) (.int .u64 1)
          have HN2 := hide (show n = (alongL r i).length by rw [HL2.out, ← HRN.out]; omega)
          obtain ⟨w3, hw3⟩ : ∃ w3, w3 = wr.setCell ⟨gd, i * 2 + 1, none⟩ (.int .u64 1) := ⟨_, rfl⟩
          rw [← hw3] at hs hbs
          have HW3 := hide hw3.symm
          obtain ⟨q0, q1, q2, q3⟩ := (hX.belowN hbs).c2
          rw [hw3] at q0 q1 q2 q3
          clear hw3 hnL hlt hx e3
          go_wp2_with (go_at_call 31; go_must (rw [HW3.out]; (with_reducible refine (Run14_calls nr a c ln l HLN.out _ n cb' (alongL r i) HN2.out A2 0 HA2.out (by rw [HN2.out]; exact HJ1.out) w3 (g1.belowN hbs) (by omega) hs.at_).mono ?_); rintro e w4 ⟨a4, c4, rfl, hown4, hb4⟩; have hC4 := hbs.trans (hb4.mono hbs.size)))
          have hz4 := hC4.size
          rw [← HJ2.out]
          go_loopw [14, 15] (fun bv iv wr => ∃ (j : Nat) (ab : Option Addr) (cb : Nat), iv = .int .i64 j ∧ j ≤ nr ∧ bv = .slice ab j cb ∧ Own wr w4.heap.size 68 ab cb ((A2.take j).map (·.d)) ∧ Below w4.heap.size w4 wr) (fun _ iv _ => nr - (intOf iv).toNat)
          case atStart => exact ⟨0, _, 0, rfl, by omega, rfl, Own.new w4 (Nat.le_refl _) _ UInt64, below_new12 w4 _⟩
          case round =>
            obtain ⟨j, ab5, cb5, rfl, hj, rfl, hD, hb5⟩ := hrel
            have hz5 := hb5.size
            by_cases hlt : j < nr
            · obtain ⟨b1, off1, x, rfl, hx, c0, c1'⟩ := hown4.at_.getDu hb5 (show j < A2.length by have := HJ2.out; omega)
              have HX := hide (map_d_snoc hx.out)
              have HKL := hide (show j = ((A2.take j).map (·.d)).length by have := HJ2.out; rw [List.length_map, List.length_take]; omega)
              go_wp2_with (at_builtin; refine wpList_push tyU hD x.d rfl rfl rfl rfl rfl rfl HKL.out hz5 (by omega) ?_; intro a8 c8 w8 hown8 hg8 _)
              go_roundw
              case rel => exact ⟨j + 1, a8, c8, by go_num, by omega, rfl, by rw [← HX.out]; exact hown8, below_push hb5 hD hg8 hz5⟩
              case measure => simp [intOf] <;> omega
            · have hjn : j = nr := by omega
              subst hjn
              rw [show A2.take j = A2 by rw [HJ2.out, List.take_length], HJ3.out] at hD
              clear hlt hj
              go_wp2
              go_ret2
              exact ⟨ab5, cb5, rfl, hD.mono (by omega), hb0.trans ((hC4.trans (hb5.mono hC4.size)).mono hb0.size)⟩
theorem Along14_calls (regs : Int) (a : Option Addr) (c ln : Nat) (l : List OpD) (hln : ln = l.length) (ra : Option Addr) (rn rc : Nat) (r : List UInt64) (hrn : rn = r.length) (i : Int) (A : List UInt64) (E : Int) (hA : alongA regs l r i = A) (hE : alongE regs l rn i = E) (w : World) (h : At w a l) (hl : ln ≤ 1000000) (hr : At w ra r) (hrb : rn ≤ 1000000) :
    Calls Try.prog 35 #[.agg #[.int .i64 regs, .slice a ln c], .slice ra rn rc, .int .i64 i] w fun e w' => ∃ a' c', e = .returned (.tuple #[.slice a' A.length c', .int .i64 E]) ∧ Own w' w.heap.size 68 a' c' A ∧ Below w.heap.size w w' := by
  by_cases hc : E = 0
  · subst hc
    obtain ⟨f, hf, g, hn, h0, h1⟩ := alongE_good hE
    obtain ⟨nr, rfl⟩ : ∃ nr : Nat, regs = nr := ⟨regs.toNat, by have := g.r1; omega⟩
    obtain ⟨j, rfl⟩ : ∃ j : Nat, i = j := ⟨i.toNat, by omega⟩
    refine (Along_good nr a c ln l hln ra rn rc r hrn j f hf g (by omega) (by omega) w h hr).mono ?_
    rintro e w' ⟨a', c', rfl, o, hb⟩
    rw [hA] at o
    have hAl : A.length = nr := by rw [← hA, hf, alongA_len g (by omega) h0 h1]; omega
    exact ⟨a', c', by rw [hAl], o, hb⟩
  · have hA0 : A = [] := by rw [← hA]; exact alongA_bad (by rw [← hrn, hE]; exact hc)
    subst hA0
    have key : Calls Try.prog 35 #[.agg #[.int .i64 regs, .slice a ln c], .slice ra rn rc, .int .i64 i] w fun e w' => e = .returned (.tuple #[.slice none 0 0, .int .i64 E]) ∧ Below w.heap.size w w' := by
      by_cases h0 : dualE regs l rn = 0
      · unfold alongE at hE
        rw [if_neg (by simpa using h0)] at hE
        by_cases hi : i < 0 ∨ regs ≤ i
        · rw [if_pos hi] at hE
          subst hE
          by_cases hi0 : i < 0
          · exact Along_arg1 regs a c ln l hln ra rn rc r hrn i h0 hi0 w h hl hr hrb
          · exact Along_arg2 regs a c ln l hln ra rn rc r hrn i h0 (by omega) (by omega) w h hl hr hrb
        · rw [if_neg hi] at hE
          exact absurd hE.symm hc
      · unfold alongE at hE
        rw [if_pos h0] at hE
        exact Along_bad regs a c ln l hln ra rn rc r hrn i E hE hc w h hl hr hrb
    refine key.mono ?_
    rintro e w' ⟨rfl, hb⟩
    exact ⟨none, 0, rfl, Own.none _ _ _, hb⟩
end Go.Proofs.Ythncfoompoheoaa
