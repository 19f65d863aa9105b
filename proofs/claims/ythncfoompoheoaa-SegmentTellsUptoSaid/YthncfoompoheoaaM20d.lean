/- Chapter 21, the document's answers: Was. -/
import Derived.Test.YthncfoompoheoaaM20c
import Derived.Test.YthncfoompoheoaaQj
namespace Go.Proofs.Ythncfoompoheoaa
set_option linter.unusedVariables false
set_option linter.unusedSimpArgs false
open Go.RowKit
theorem sizeW_bd20 (l : List OpD) : 0 ≤ sizeW l ∧ sizeW l ≤ 65536 := by
  cases hw : well l with
  | false => rw [(size_bad hw).2.1]; omega
  | true =>
    obtain ⟨f, hf, rfl⟩ := forest_of_well l hw
    rw [(sizes_flat hf).1]
    split
    · rename_i h; have := h.2; omega
    · omega
set_option maxRecDepth 100000 in
set_option maxHeartbeats 1600000 in
theorem RWas_calls (regs : Int) (a : Option Addr) (c : Nat) (l : List OpD) (ta : Option Addr) (tn tc : Nat) (t : List UInt64) (htn : tn = t.length) (i : Int) (ra : Option Addr) (rn rc : Nat) (rs : List Int) (hrn : rn = rs.length) (hrs : ∀ r ∈ rs, -9223372036854775808 ≤ r ∧ r ≤ 9223372036854775807) (V : UInt64) (E : Int) (hV : wasS regs l t i rs = (V, E)) (w : World) (h : At w a l) (hl : l.length ≤ 1000000) (ht : At w ta t) (htl : tn ≤ 1000000) (hr : At w ra rs) (hrl : rn ≤ 1000000) (hi1 : -9223372036854775808 ≤ i) (hi2 : i ≤ 9223372036854775807) :
    Calls Try.prog 42 #[.agg #[.int .i64 regs, .slice a l.length c], .slice ta tn tc, .int .i64 i, .slice ra rn rc] w fun e w' => e = .returned (.tuple #[.int .u64 (V.toNat : Int), .int .i64 E]) ∧ Below w.heap.size w w' := by
  have hb0 := below_new12 w (.cells #[.int .i64 regs, .slice a l.length c] 24)
  have h1 := h.belowN hb0
  have ht1 := ht.belowN hb0
  obtain ⟨P, Q, hP⟩ : ∃ P Q, placeS regs l i rs = (P, Q) := ⟨_, _, rfl⟩
  have HPL := hide (Place20_calls regs a c l i ra rn rc rs hrn hrs P Q hP _ h1 hl (hr.belowN hb0) hrl hi1 hi2)
  have htn1 : tn ≤ t.length := by omega
  have htn2 : t.length ≤ tn := by omega
  clear hrn hrs htn
  unfold wasS at hV
  rw [hP] at hV
  simp only at hV
  by_cases hq : Q = 0
  · subst hq
    rw [if_neg (by simp)] at hV
    obtain ⟨f, rfl, g⟩ : ∃ f : Fo, l = f.flat ∧ Good regs f := good_of_check (Classical.byContradiction fun h0 => h0 (placeS_bad hP h0).2.symm)
    have hbd := placeS_bd g hP
    have HUN := hide (fun w' R (hR : unrS regs f.flat = R) (h4 : At w' a f.flat) => Unroll12R regs a c f.flat w' R 0 hR g.check h4 hl)
    obtain ⟨R, hR⟩ : ∃ R, unrS regs f.flat = R := ⟨_, rfl⟩
    have hRl : R.length = f.unroll.length := by rw [← hR, unrS_good g]
    rw [hR] at hV
    rw [← Fo.unroll_length, ← hRl] at hbd
    have hul : R.length ≤ 65536 := by rw [hRl, Fo.unroll_length]; exact g.few
    have HR := hide hR
    clear g hP hR hRl
    by_cases hn : t.length < R.length
    · rw [if_pos hn] at hV
      injection hV with hv1 hv2
      subst hv1 hv2
      have hd2 : tn < R.length := by omega
      go_enter Try.func42, Try.ntmps42
      go_wp2_with (first
        | (go_at_call 18; go_must ((with_reducible refine (HPL.out).mono ?_); rintro e w1 ⟨rfl, hb1⟩; have hB1 := hb0.trans (hb1.mono hb0.size); have h2 := h1.belowN hb1; have hbx := (Blk.new w 24 #[.int .i64 regs, .slice a f.flat.length c]).belowN hb1; obtain ⟨p0, p1, p2, p3⟩ := hbx.c2))
        | (go_at_call 83; go_must ((with_reducible refine (HUN.out _ R HR.out h2).mono ?_); rintro e w2 ⟨a2, c2, rfl, hown2, hb2⟩)))
      go_ret2
      exact ⟨rfl, hB1.trans (hb2.mono hB1.size)⟩
    · rw [if_neg hn] at hV
      injection hV with hv1 hv2
      subst hv2
      obtain ⟨k, rfl⟩ : ∃ k : Nat, P = k := ⟨P.toNat, by omega⟩
      have hk : k < t.length := by omega
      have htk : t[k]? = some V := by
        unfold getR at hv1
        simp only [Int.toNat_natCast] at hv1
        rw [List.getElem?_eq_getElem hk] at hv1 ⊢
        rw [← hv1]; rfl
      have HTK := hide htk
      have hd2 : R.length ≤ tn := by omega
      have hk2 : k < tn := by omega
      clear hv1 hn hbd htk
      go_enter Try.func42, Try.ntmps42
      go_wp2_with (first
        | (go_at_call 18; go_must ((with_reducible refine (HPL.out).mono ?_); rintro e w1 ⟨rfl, hb1⟩; have hB1 := hb0.trans (hb1.mono hb0.size); have h2 := h1.belowN hb1; have ht2 := ht1.belowN hb1; have hbx := (Blk.new w 24 #[.int .i64 regs, .slice a f.flat.length c]).belowN hb1; obtain ⟨p0, p1, p2, p3⟩ := hbx.c2))
        | (go_at_call 83; go_must ((with_reducible refine (HUN.out _ R HR.out h2).mono ?_); rintro e w2 ⟨a2, c2, rfl, hown2, hb2⟩; obtain ⟨bt, ot, hta, hct⟩ := (ht2.belowN hb2) k V HTK.out; replace hct := hct 0 _ rfl; simp only [Flat.n, Nat.mul_one, Nat.add_zero] at hct; subst hta)))
      go_ret2
      exact ⟨rfl, hB1.trans (hb2.mono hB1.size)⟩
  · rw [if_pos hq] at hV
    injection hV with hv1 hv2
    subst hv1 hv2
    have e1 : (Q == 0) = false := by simpa using hq
    have e2 : (Q != 0) = true := by simpa using hq
    clear hq hP
    go_enter Try.func42, Try.ntmps42
    go_wp2_with (go_at_call 18; go_must ((with_reducible refine (HPL.out).mono ?_); rintro e w1 ⟨rfl, hb1⟩; have hB1 := hb0.trans (hb1.mono hb0.size)))
    go_ret2
    exact ⟨rfl, hB1⟩
theorem RWasN (regs : Int) (a : Option Addr) (c ln : Nat) (l : List OpD) (hln : ln = l.length) (ta : Option Addr) (tn tc : Nat) (t : List UInt64) (htn : tn = t.length) (i : Int) (ra : Option Addr) (rn rc : Nat) (rs : List Int) (hrn : rn = rs.length) (hrs : ∀ r ∈ rs, -9223372036854775808 ≤ r ∧ r ≤ 9223372036854775807) (V : UInt64) (E : Int) (hV : wasS regs l t i rs = (V, E)) (w : World) (h : At w a l) (hl : ln ≤ 1000000) (ht : At w ta t) (htl : tn ≤ 1000000) (hr : At w ra rs) (hrl : rn ≤ 1000000) (hi1 : -9223372036854775808 ≤ i) (hi2 : i ≤ 9223372036854775807) :
    Calls Try.prog 42 #[.agg #[.int .i64 regs, .slice a ln c], .slice ta tn tc, .int .i64 i, .slice ra rn rc] w fun e w' => e = .returned (.tuple #[.int .u64 (V.toNat : Int), .int .i64 E]) ∧ Below w.heap.size w w' := by
  subst hln
  exact RWas_calls regs a c l ta tn tc t htn i ra rn rc rs hrn hrs V E hV w h hl ht htl hr hrl hi1 hi2
end Go.Proofs.Ythncfoompoheoaa
