/- Chapter 21: Was. -/
import Derived.Test.YthncfoompoheoaaS20d
import Derived.Test.YthncfoompoheoaaT21d
namespace Go.Proofs.Ythncfoompoheoaa
set_option linter.unusedVariables false
set_option linter.unusedSimpArgs false
open Go.RowKit

theorem kind_isW (f : Fo) (hf : f.ok) : ∀ (j : Nat) (x : OpD), f.flat[j]? = some x → 1 ≤ x.kind → x.kind ≤ 6 → f.isW j := by
  induction f with
  | nil => intro j x h; simp [Fo.flat] at h
  | leaf op r ih =>
    intro j x h k1 k2
    obtain ⟨_, _, h3⟩ := hf
    cases j with
    | zero => rw [Fo.isW]; simp
    | succ j =>
      rw [Fo.isW, if_neg (by omega)]
      exact ih h3 _ x (by simpa [Fo.flat] using h) k1 k2
  | rep op b fin r ihb ihr =>
    intro j x h k1 k2
    obtain ⟨h1, h2, h3, h4⟩ := hf
    have hbs : b.size = b.flat.length := rfl
    change (op :: (b.flat ++ fin :: r.flat))[j]? = some x at h
    rw [Fo.isW]
    cases j with
    | zero => simp at h; subst h; omega
    | succ j =>
      rw [if_neg (by omega)]
      rw [List.getElem?_cons_succ] at h
      by_cases hj : j < b.flat.length
      · rw [if_pos (by omega)]
        rw [List.getElem?_append_left hj] at h
        exact ihb h2 j x h k1 k2
      · rw [List.getElem?_append_right (by omega)] at h
        by_cases hj2 : j = b.flat.length
        · subst hj2
          simp at h
          subst h; omega
        · rw [if_neg (by omega)]
          rw [show j - b.flat.length = (j + 1 - b.size - 2) + 1 by omega, List.getElem?_cons_succ] at h
          exact ihr h4 _ x h k1 k2
theorem placeS_bd {regs : Int} {f : Fo} (g : Good regs f) {i : Int} {rs : List Int} {V : Int} (h : placeS regs f.flat i rs = (V, 0)) : 0 ≤ V ∧ V < (f.wr : Int) := by
  unfold placeS at h
  rw [if_neg (by rw [g.check]; simp)] at h
  by_cases hi : i < 0 ∨ (f.flat.length : Int) ≤ i
  · rw [if_pos hi] at h; injection h with h1 h2; cases h2
  · rw [if_neg hi] at h
    obtain ⟨k, rfl⟩ : ∃ k : Nat, i = k := ⟨i.toNat, by omega⟩
    have hl : k < f.flat.length := by omega
    by_cases hc : wAt f.flat (k : Int) = true ∧ rgt f.flat (aroundS f.flat (k : Int)).1 rs = true
    · rw [if_pos hc, fo_flat g.ok] at h
      injection h with h1 h2
      obtain ⟨x, hx⟩ : ∃ x, f.flat[k]? = some x := ⟨_, List.getElem?_eq_getElem hl⟩
      have hw := hc.1
      unfold wAt at hw
      simp only [Int.toNat_natCast] at hw h1
      rw [hx] at hw
      have hk16 : 1 ≤ x.kind ∧ x.kind ≤ 6 := by unfold dOf at hw; simpa using hw
      have hA := around_good g.ok hx
      obtain ⟨hep, _⟩ := f.encl_pth g.ok 0 k x hx (by omega)
      have hrr := rgt_rok _ f 0 k rs (Stands.whole g.ok) (by unfold Fo.size; omega) hep.symm
      have hr2 := hc.2
      rw [hA] at hr2
      obtain ⟨b1, b2, b3⟩ := f.plc_bd k rs (hrr.1 hr2)
      rw [← h1]
      exact ⟨b1, b3 (kind_isW f g.ok k x hx hk16.1 hk16.2)⟩
    · rw [if_neg hc] at h; injection h with h1 h2; cases h2
theorem placeS_bad {regs : Int} {l : List OpD} {i : Int} {rs : List Int} {V E : Int} (h : placeS regs l i rs = (V, E)) (h0 : checkS regs l ≠ 0) : V = 0 ∧ E = checkS regs l := by
  unfold placeS at h
  rw [if_pos h0] at h
  injection h with h1 h2
  exact ⟨h1.symm, h2.symm⟩
/-- what a write overwrote -/
noncomputable def wasS (regs : Int) (l : List OpD) (t : List UInt64) (i : Int) (rs : List Int) : UInt64 × Int :=
  if (placeS regs l i rs).2 ≠ 0 then (0, (placeS regs l i rs).2) else if t.length < (unrS regs l).length then (0, 15) else (getR t (placeS regs l i rs).1, 0)
set_option maxRecDepth 100000 in
set_option maxHeartbeats 1600000 in
theorem Was_calls (regs : Int) (a : Option Addr) (c : Nat) (l : List OpD) (ta : Option Addr) (tn tc : Nat) (t : List UInt64) (htn : tn = t.length) (i : Int) (ra : Option Addr) (rn rc : Nat) (rs : List Int) (hrn : rn = rs.length) (hrs : ∀ r ∈ rs, -9223372036854775808 ≤ r ∧ r ≤ 9223372036854775807) (V : UInt64) (E : Int) (hV : wasS regs l t i rs = (V, E)) (w : World) (h : At w a l) (hl : l.length ≤ 1000000) (ht : At w ta t) (htl : tn ≤ 1000000) (hr : At w ra rs) (hrl : rn ≤ 1000000) :
    Calls Try.prog 41 #[.agg #[.int .i64 regs, .slice a l.length c], .slice ta tn tc, .int .i64 i, .slice ra rn rc] w fun e w' => e = .returned (.tuple #[.int .u64 (V.toNat : Int), .int .i64 E]) ∧ Below w.heap.size w w' := by
  have hb0 := below_new12 w (.cells #[.int .i64 regs, .slice a l.length c] 24)
  have h1 := h.belowN hb0
  have ht1 := ht.belowN hb0
  obtain ⟨P, Q, hP⟩ : ∃ P Q, placeS regs l i rs = (P, Q) := ⟨_, _, rfl⟩
  have HPL := hide (Place_calls regs a c l i ra rn rc rs hrn hrs P Q hP _ h1 hl (hr.belowN hb0) hrl)
  have htn1 : tn ≤ t.length := by omega
  have htn2 : t.length ≤ tn := by omega
  clear hrn hrs htn
  unfold wasS at hV
  rw [hP] at hV
  simp only at hV
  by_cases hq : Q = 0
  · subst hq
    rw [if_neg (by simp)] at hV
    obtain ⟨f, rfl, g⟩ : ∃ f : Fo, l = f.flat ∧ Good regs f := good_of_check (Classical.byContradiction fun h0 => h0 (placeS_bad hP h0).2.symm)
    have hbd := placeS_bd g hP
    have HSZ := hide (fun w' (g : At w' a f.flat) => SizeW_calls a c f.flat w' g (by omega))
    rw [g.sizeW.1, g.sizeW.2] at HSZ
    rw [unrS_good g] at hV
    rw [← Fo.unroll_length] at hbd
    have hul : f.unroll.length ≤ 65536 := by rw [Fo.unroll_length]; exact g.few
    generalize f.unroll.length = nu at *
    clear g hP
    by_cases hn : t.length < nu
    · rw [if_pos hn] at hV
      injection hV with hv1 hv2
      subst hv1 hv2
      have hd2 : tn < nu := by omega
      go_enter Try.func41, Try.ntmps41
      go_wp2_with (first
        | (go_at_call 17; go_must ((with_reducible refine (HPL.out).mono ?_); rintro e w1 ⟨rfl, hb1⟩; have hB1 := hb0.trans (hb1.mono hb0.size); have h2 := h1.belowN hb1; have hbx := (Blk.new w 24 #[.int .i64 regs, .slice a f.flat.length c]).belowN hb1; obtain ⟨p0, p1, p2, p3⟩ := hbx.c2))
        | (go_at_call 15; go_must ((with_reducible refine (HSZ.out _ h2).mono ?_); rintro e w2 ⟨rfl, hb2⟩)))
      go_ret2
      exact ⟨rfl, hB1.trans (hb2.mono hB1.size)⟩
    · rw [if_neg hn] at hV
      injection hV with hv1 hv2
      subst hv2
      obtain ⟨k, rfl⟩ : ∃ k : Nat, P = k := ⟨P.toNat, by omega⟩
      have hk : k < t.length := by omega
      have htk : t[k]? = some V := by
        unfold getR at hv1
        simp only [Int.toNat_natCast] at hv1
        rw [List.getElem?_eq_getElem hk] at hv1 ⊢
        rw [← hv1]; rfl
      have HTK := hide htk
      have hd2 : nu ≤ tn := by omega
      have hk2 : k < tn := by omega
      clear hv1 hn hbd htk
      go_enter Try.func41, Try.ntmps41
      go_wp2_with (first
        | (go_at_call 17; go_must ((with_reducible refine (HPL.out).mono ?_); rintro e w1 ⟨rfl, hb1⟩; have hB1 := hb0.trans (hb1.mono hb0.size); have h2 := h1.belowN hb1; have ht2 := ht1.belowN hb1; have hbx := (Blk.new w 24 #[.int .i64 regs, .slice a f.flat.length c]).belowN hb1; obtain ⟨p0, p1, p2, p3⟩ := hbx.c2))
        | (go_at_call 15; go_must ((with_reducible refine (HSZ.out _ h2).mono ?_); rintro e w2 ⟨rfl, hb2⟩; obtain ⟨bt, ot, hta, hct⟩ := (ht2.belowN hb2) k V HTK.out; replace hct := hct 0 _ rfl; simp only [Flat.n, Nat.mul_one, Nat.add_zero] at hct; subst hta)))
      go_ret2
      exact ⟨rfl, hB1.trans (hb2.mono hB1.size)⟩
  · rw [if_pos hq] at hV
    injection hV with hv1 hv2
    subst hv1 hv2
    have e1 : (Q == 0) = false := by simpa using hq
    have e2 : (Q != 0) = true := by simpa using hq
    clear hq hP
    go_enter Try.func41, Try.ntmps41
    go_wp2_with (go_at_call 17; go_must ((with_reducible refine (HPL.out).mono ?_); rintro e w1 ⟨rfl, hb1⟩; have hB1 := hb0.trans (hb1.mono hb0.size)))
    go_ret2
    exact ⟨rfl, hB1⟩
end Go.Proofs.Ythncfoompoheoaa
