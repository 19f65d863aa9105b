/- Several texts of mine in one file: Db, Dc, Dd. -/
import Derived.Test.YthncfoompoheoaaQr
import Derived.Test.YthncfoompoheoaaS22d
import Derived.Deep.RegionHeld3
/- Duals, plain: the run that is derived by one register. No program is named here. -/
namespace Go.Proofs.Ythncfoompoheoaa
set_option linter.unusedVariables false
set_option linter.unusedSimpArgs false
open Go.RowKit
theorem startD_get (n : Nat) (r : List DuD) (j : Nat) : (startD n r)[j]? = if j < r.length then r[j]? else if j < n then some ⟨0, 0⟩ else none := by
  unfold startD
  by_cases h : j < r.length
  · rw [if_pos h, List.getElem?_append_left h]
  · rw [if_neg h, List.getElem?_append_right (by omega), List.getElem?_replicate]
    by_cases h2 : j < n
    · rw [if_pos h2, if_pos (by omega)]
    · rw [if_neg h2, if_neg (by omega)]
theorem startR_get (n : Nat) (r : List UInt64) (j : Nat) : (startR n r)[j]? = if j < r.length then r[j]? else if j < n then some 0 else none := by
  unfold startR
  by_cases h : j < r.length
  · rw [if_pos h, List.getElem?_append_left h]
  · rw [if_neg h, List.getElem?_append_right (by omega), List.getElem?_replicate]
    by_cases h2 : j < n
    · rw [if_pos h2, if_pos (by omega)]
    · rw [if_neg h2, if_neg (by omega)]
theorem startD_len (n : Nat) (r : List DuD) : (startD n r).length = max n r.length := by simp [startD]; omega
/-- the registers as duals, derived by the one of number i -/
def alongL (r : List UInt64) (i : Nat) : List DuD := (startD (i + 1) (ofWords r)).set i ⟨(r[i]?).getD 0, 1⟩
theorem alongL_len (r : List UInt64) (i : Nat) : (alongL r i).length = max (i + 1) r.length := by unfold alongL; rw [List.length_set, startD_len, ofWords_length]
theorem ofWords_get (r : List UInt64) (j : Nat) : (ofWords r)[j]? = (r[j]?).map fun x => ⟨x, 0⟩ := by simp [ofWords]
theorem alongL_start (r : List UInt64) (i n : Nat) (hi : i < n) (hr : r.length ≤ n) : startD n (alongL r i) = zipD (startR n r) (unitR n i) := by
  apply List.ext_getElem?
  intro j
  rw [startD_get, alongL_len]
  unfold zipD unitR alongL
  rw [List.getElem?_zipWith, startR_get, List.getElem?_set, List.getElem?_set, startD_get, startD_len, List.getElem?_replicate, List.length_replicate, ofWords_length, ofWords_get]
  by_cases hij : i = j
  · subst hij
    rw [if_pos rfl, if_pos rfl, if_pos (by omega), if_pos (by omega), if_pos hi]
    by_cases h1 : i < r.length
    · rw [if_pos h1, List.getElem?_eq_getElem h1, if_pos hi]; rfl
    · rw [if_neg h1, if_pos hi, List.getElem?_eq_none (by omega)]; rfl
  · rw [if_neg hij, if_neg hij]
    by_cases h1 : j < r.length
    · rw [if_pos (by omega), if_pos h1, if_pos h1, if_pos (by omega), List.getElem?_eq_getElem h1]; rfl
    · rw [if_neg h1, if_neg h1]
      by_cases h2 : j < n
      · by_cases h3 : j < i + 1
        · rw [if_pos (by omega), if_pos h3, if_pos h2]
        · rw [if_neg (by omega), if_pos h2, if_pos h2]
      · rw [if_neg (by omega), if_neg h2, if_neg h2]
/-- may it be derived by a register? -/
def alongE (regs : Int) (l : List OpD) (rn : Nat) (i : Int) : Int := if dualE regs l rn ≠ 0 then dualE regs l rn else if i < 0 ∨ regs ≤ i then 2 else 0
noncomputable def alongA (regs : Int) (l : List OpD) (r : List UInt64) (i : Int) : List UInt64 := if alongE regs l r.length i = 0 then runT (unrS regs l) (startR regs.toNat r) (unitR regs.toNat i.toNat) else []
theorem alongE_good {regs : Int} {l : List OpD} {rn : Nat} {i : Int} (h : alongE regs l rn i = 0) : ∃ f : Fo, l = f.flat ∧ Good regs f ∧ (rn : Int) ≤ regs ∧ 0 ≤ i ∧ i < regs := by
  unfold alongE at h
  by_cases hc : dualE regs l rn = 0
  · rw [if_neg (by simpa using hc)] at h
    obtain ⟨f, e, g, hn⟩ := dualE_good hc
    by_cases hi : i < 0 ∨ regs ≤ i
    · rw [if_pos hi] at h; cases h
    · exact ⟨f, e, g, hn, by omega, by omega⟩
  · rw [if_pos hc] at h; exact absurd h hc
theorem alongE_of {regs : Int} {f : Fo} (g : Good regs f) {rn : Nat} {i : Int} (hn : (rn : Int) ≤ regs) (h0 : 0 ≤ i) (h1 : i < regs) : alongE regs f.flat rn i = 0 := by
  unfold alongE
  rw [if_neg (by simpa using dualE_of g hn), if_neg (by omega)]
theorem alongA_good {regs : Int} {f : Fo} (g : Good regs f) {r : List UInt64} {i : Int} (hn : (r.length : Int) ≤ regs) (h0 : 0 ≤ i) (h1 : i < regs) : alongA regs f.flat r i = runT f.unroll (startR regs.toNat r) (unitR regs.toNat i.toNat) := by
  unfold alongA
  rw [if_pos (alongE_of g hn h0 h1), unrS_good g]
theorem alongA_bad {regs : Int} {l : List OpD} {r : List UInt64} {i : Int} (h : alongE regs l r.length i ≠ 0) : alongA regs l r i = [] := by unfold alongA; rw [if_neg h]
theorem alongA_len {regs : Int} {f : Fo} (g : Good regs f) {r : List UInt64} {i : Int} (hn : (r.length : Int) ≤ regs) (h0 : 0 ≤ i) (h1 : i < regs) : (alongA regs f.flat r i).length = regs.toNat := by
  rw [alongA_good g hn h0 h1, runT_length]; simp [unitR]
/-- the run that is derived by it -/
theorem along_run {nr : Nat} {f : Fo} (g : Good nr f) {r : List UInt64} {i : Nat} (hn : r.length ≤ nr) (hi : i < nr) :
    dualE nr f.flat (alongL r i).length = 0 ∧ (dualR nr f.flat (alongL r i)).length = nr ∧ (dualR nr f.flat (alongL r i)).map (·.d) = alongA nr f.flat r i ∧ (dualR nr f.flat (alongL r i)).map (·.v) = runR f.unroll (startR nr r) := by
  have hl : (alongL r i).length ≤ nr := by rw [alongL_len]; omega
  have hll : (startR nr r).length = (unitR nr i).length := by rw [startR_length _ _ hn]; simp [unitR]
  have e : dualR nr f.flat (alongL r i) = zipD (runR f.unroll (startR nr r)) (runT f.unroll (startR nr r) (unitR nr i)) := by
    rw [dualR_good g (by omega), Int.toNat_natCast, alongL_start r i nr hi hn]
    exact runD_zip _ (fun x hx => (f.unroll_mem g.ok x hx).2) _ _ hll
  have hl2 : (runR f.unroll (startR nr r)).length = (runT f.unroll (startR nr r) (unitR nr i)).length := by rw [runR_length, runT_length, hll]
  refine ⟨dualE_of g (by omega), ?_, ?_, ?_⟩
  · rw [e, zipD_length _ _ hl2, runR_length, startR_length _ _ hn]
  · rw [e, zipD_d _ _ hl2, alongA_good g (by omega) (by omega) (by omega), Int.toNat_natCast, Int.toNat_natCast]
  · rw [e, zipD_v _ _ hl2]
theorem dotU_nil (b : List UInt64) : dotU [] b = 0 := by cases b <;> rfl
theorem dotU_start (n : Nat) (w t : List UInt64) (hw : w.length ≤ n) (ht : t.length = n) : dotU (startR n w) t = dotU w t := by
  induction w generalizing n t with
  | nil =>
    rw [dotU_nil, dot_comm]
    unfold startR
    rw [List.nil_append]
    exact dot_zero _ _
  | cons x w ih =>
    cases t with
    | nil => simp at ht; subst ht; simp at hw
    | cons y t =>
      obtain ⟨m, rfl⟩ : ∃ m, n = m + 1 := ⟨n - 1, by simp at ht; omega⟩
      have e : startR (m + 1) (x :: w) = x :: startR m w := by unfold startR; simp
      rw [e]
      show x * y + dotU (startR m w) t = x * y + dotU w t
      rw [ih m t (by simpa using hw) (by simpa using ht)]
theorem dotU_snoc (w t : List UInt64) (k : Nat) (x y : UInt64) (hx : w[k]? = some x) (hy : t[k]? = some y) : dotU (w.take (k + 1)) t = dotU (w.take k) t + x * y := by
  induction k generalizing w t with
  | zero =>
    cases w with
    | nil => simp at hx
    | cons a w => cases t with
      | nil => simp at hy
      | cons b t =>
        simp at hx hy
        subst hx hy
        show a * b + dotU [] t = dotU [] _ + a * b
        rw [dotU_nil, dotU_nil]; grind
  | succ k ih =>
    cases w with
    | nil => simp at hx
    | cons a w => cases t with
      | nil => simp at hy
      | cons b t =>
        simp at hx hy
        show a * b + dotU (w.take (k + 1)) t = a * b + dotU (w.take k) t + x * y
        rw [ih w t hx hy]; grind
/-- what tangents tell of weights is what is taken back -/
theorem pull_along {nr : Nat} {f : Fo} (g : Good nr f) {r w : List UInt64} (hn : r.length ≤ nr) (hw : w.length ≤ nr) (i : Nat) (hi : i < nr) : (pullA nr f.flat r w)[i]? = some (dotU w (alongA nr f.flat r i)) := by
  have hl : (startR nr w).length = nr := startR_length _ _ hw
  have h := back_unit f.unroll nr (fun x hx => g.inR x hx) (startR nr r) (startR nr w) (by omega) i (by omega)
  rw [pullA_good g (by omega) (by omega), Int.toNat_natCast]
  have hb : i < (backA f.unroll (startR nr r) (startR nr w)).length := by rw [backA_length]; omega
  rw [List.getElem?_eq_getElem hb] at h ⊢
  rw [Option.getD_some] at h
  rw [h, hl, alongA_good g (by omega) (by omega) (by omega), Int.toNat_natCast, Int.toNat_natCast, dotU_start nr _ _ hw (by rw [runT_length]; simp [unitR])]
end Go.Proofs.Ythncfoompoheoaa

/- Chapter 14: ref14.Along, whole. -/
namespace Go.Proofs.Ythncfoompoheoaa
set_option linter.unusedVariables false
set_option linter.unusedSimpArgs false
open Go.RowKit
def lenV (v : Value) : Nat := match v with | .slice _ n _ => n | _ => 0
theorem startD_snoc {n : Nat} {L : List DuD} (h : L.length ≤ n) : startD n L ++ [⟨0, 0⟩] = startD (n + 1) L := by
  unfold startD
  rw [List.append_assoc, ← List.replicate_succ', show n + 1 - L.length = n - L.length + 1 by omega]
theorem startD_same {n i : Nat} {L : List DuD} (h1 : L.length ≤ n) (h2 : i + 1 ≤ n) (h3 : n ≤ max (i + 1) L.length) : startD n L = startD (i + 1) L := by
  by_cases h : L.length ≤ i + 1
  · rw [show n = i + 1 by omega]
  · unfold startD
    rw [show n - L.length = 0 by omega, show i + 1 - L.length = 0 by omega]
theorem map_d_snoc {L : List DuD} {k : Nat} {x : DuD} (h : L[k]? = some x) : (L.take k).map (·.d) ++ [x.d] = (L.take (k + 1)).map (·.d) := by
  rw [List.take_add_one, h]; simp
set_option maxRecDepth 100000 in
set_option maxHeartbeats 3200000 in
theorem Along_arg1 (regs : Int) (a : Option Addr) (c ln : Nat) (l : List OpD) (hln : ln = l.length) (ra : Option Addr) (rn rc : Nat) (r : List UInt64) (hrn : rn = r.length) (i : Int) (hE : dualE regs l rn = 0) (hi : i < 0) (w : World) (h : At w a l) (hl : ln ≤ 1000000) (hr : At w ra r) (hrb : rn ≤ 1000000) :
    Calls Try.prog 35 #[.agg #[.int .i64 regs, .slice a ln c], .slice ra rn rc, .int .i64 i] w fun e w' => e = .returned (.tuple #[.slice none 0 0, .int .i64 2]) ∧ Below w.heap.size w w' := by
  have hb0 := below_new12 w (.cells #[.int .i64 regs, .slice a ln c] 24)
  have hX := Blk.new w 24 #[.int .i64 regs, .slice a ln c]
  have g1 := h.belowN hb0
  have hr1 := hr.belowN hb0
  have HRN := hide hrn
  have HLN := hide hln
  obtain ⟨A, hA⟩ : ∃ A, dualR regs l (ofWords r) = A := ⟨_, rfl⟩
  have HA := hide hA
  clear hA hrn hln
  obtain ⟨w1, hw1⟩ : ∃ w1, w1 = w.alloc (.cells #[.int .i64 regs, .slice a ln c] 24) := ⟨_, rfl⟩
  rw [← hw1] at hb0 hX g1 hr1
  have hz1l : w1.heap.size ≤ w.heap.size + 1 := by rw [hw1]; simp
  have hz1r : w.heap.size + 1 ≤ w1.heap.size := by rw [hw1]; simp
  have HW1 := hide hw1.symm
  clear hw1
  have HE := hide hE
  clear hE
  go_enter Try.func35, Try.ntmps35
  go_wp2
  rw [HW1.out]
  clear HW1
  go_loopw [8, 9] (fun bv iv wr => ∃ (k : Nat) (ab : Option Addr) (cb : Nat), iv = .int .i64 k ∧ k ≤ rn ∧ bv = .slice ab k cb ∧ Own wr w1.heap.size 92 ab cb (ofWords (r.take k)) ∧ Below w1.heap.size w1 wr) (fun _ iv _ => rn - (intOf iv).toNat)
  case atStart => exact ⟨0, _, 0, rfl, by omega, rfl, by have h := Own.new w1 (Nat.le_refl _) 92 DuD; rw [show w1.heap.size = w.heap.size + 1 by omega] at h ⊢; exact h, below_new12 w1 _⟩
  case round =>
    obtain ⟨k, ab, cb, rfl, hk, rfl, hB, hb⟩ := hrel
    have hzr := hb.size
    by_cases hlt : k < rn
    · obtain ⟨b1, off1, x, rfl, hx, c0⟩ := hr1.getU hb (show k < r.length by have := HRN.out; omega)
      have HX := hide (show ofWords (r.take k) ++ [(⟨x, 0⟩ : DuD)] = ofWords (r.take (k + 1)) by rw [List.take_add_one, hx.out]; simp [ofWords])
      have HKL := hide (show k = (ofWords (r.take k)).length by have := HRN.out; rw [ofWords_length, List.length_take]; omega)
      go_wp2_with (at_builtin; refine wpList_push tyD hB (⟨x, 0⟩ : DuD) rfl rfl rfl rfl rfl rfl HKL.out hzr (by omega) ?_; intro a8 c8 w8 hown8 hg8 _)
      go_roundw
      case rel => exact ⟨k + 1, a8, c8, by go_num, by omega, rfl, by rw [← HX.out]; exact hown8, below_push hb hB hg8 hzr⟩
      case measure => simp [intOf] <;> omega
    · have hkn : k = rn := by omega
      subst hkn
      rw [show r.take k = r by rw [HRN.out, List.take_length]] at hB
      have HOL := hide (show k = (ofWords r).length by rw [ofWords_length, HRN.out])
      clear hlt hk
      obtain ⟨q0, q1, q2, q3⟩ := (hX.belowN hb).c2
      go_wp2_with (go_at_call 31; go_must ((with_reducible refine (Run14_calls regs a c ln l HLN.out ab k cb (ofWords r) HOL.out A 0 HA.out HE.out wr (g1.belowN hb) (by omega) hB.at_).mono ?_); rintro e w2 ⟨a2, c2, rfl, hown2, hb2⟩; have hC2 := hb.trans (hb2.mono hb.size); obtain ⟨q0, q1, q2, q3⟩ := (hX.belowN hC2).c2))
      go_ret2
      exact ⟨rfl, hb0.trans (hC2.mono hb0.size)⟩
set_option maxRecDepth 100000 in
set_option maxHeartbeats 3200000 in
theorem Along_arg2 (regs : Int) (a : Option Addr) (c ln : Nat) (l : List OpD) (hln : ln = l.length) (ra : Option Addr) (rn rc : Nat) (r : List UInt64) (hrn : rn = r.length) (i : Int) (hE : dualE regs l rn = 0) (hi0 : 0 ≤ i) (hi : regs ≤ i) (w : World) (h : At w a l) (hl : ln ≤ 1000000) (hr : At w ra r) (hrb : rn ≤ 1000000) :
    Calls Try.prog 35 #[.agg #[.int .i64 regs, .slice a ln c], .slice ra rn rc, .int .i64 i] w fun e w' => e = .returned (.tuple #[.slice none 0 0, .int .i64 2]) ∧ Below w.heap.size w w' := by
  have hb0 := below_new12 w (.cells #[.int .i64 regs, .slice a ln c] 24)
  have hX := Blk.new w 24 #[.int .i64 regs, .slice a ln c]
  have g1 := h.belowN hb0
  have hr1 := hr.belowN hb0
  have HRN := hide hrn
  have HLN := hide hln
  obtain ⟨A, hA⟩ : ∃ A, dualR regs l (ofWords r) = A := ⟨_, rfl⟩
  have HA := hide hA
  clear hA hrn hln
  obtain ⟨w1, hw1⟩ : ∃ w1, w1 = w.alloc (.cells #[.int .i64 regs, .slice a ln c] 24) := ⟨_, rfl⟩
  rw [← hw1] at hb0 hX g1 hr1
  have hz1l : w1.heap.size ≤ w.heap.size + 1 := by rw [hw1]; simp
  have hz1r : w.heap.size + 1 ≤ w1.heap.size := by rw [hw1]; simp
  have HW1 := hide hw1.symm
  clear hw1
  have HE := hide hE
  clear hE
  go_enter Try.func35, Try.ntmps35
  go_wp2
  rw [HW1.out]
  clear HW1
  go_loopw [8, 9] (fun bv iv wr => ∃ (k : Nat) (ab : Option Addr) (cb : Nat), iv = .int .i64 k ∧ k ≤ rn ∧ bv = .slice ab k cb ∧ Own wr w1.heap.size 92 ab cb (ofWords (r.take k)) ∧ Below w1.heap.size w1 wr) (fun _ iv _ => rn - (intOf iv).toNat)
  case atStart => exact ⟨0, _, 0, rfl, by omega, rfl, by have h := Own.new w1 (Nat.le_refl _) 92 DuD; rw [show w1.heap.size = w.heap.size + 1 by omega] at h ⊢; exact h, below_new12 w1 _⟩
  case round =>
    obtain ⟨k, ab, cb, rfl, hk, rfl, hB, hb⟩ := hrel
    have hzr := hb.size
    by_cases hlt : k < rn
    · obtain ⟨b1, off1, x, rfl, hx, c0⟩ := hr1.getU hb (show k < r.length by have := HRN.out; omega)
      have HX := hide (show ofWords (r.take k) ++ [(⟨x, 0⟩ : DuD)] = ofWords (r.take (k + 1)) by rw [List.take_add_one, hx.out]; simp [ofWords])
      have HKL := hide (show k = (ofWords (r.take k)).length by have := HRN.out; rw [ofWords_length, List.length_take]; omega)
      go_wp2_with (at_builtin; refine wpList_push tyD hB (⟨x, 0⟩ : DuD) rfl rfl rfl rfl rfl rfl HKL.out hzr (by omega) ?_; intro a8 c8 w8 hown8 hg8 _)
      go_roundw
      case rel => exact ⟨k + 1, a8, c8, by go_num, by omega, rfl, by rw [← HX.out]; exact hown8, below_push hb hB hg8 hzr⟩
      case measure => simp [intOf] <;> omega
    · have hkn : k = rn := by omega
      subst hkn
      rw [show r.take k = r by rw [HRN.out, List.take_length]] at hB
      have HOL := hide (show k = (ofWords r).length by rw [ofWords_length, HRN.out])
      clear hlt hk
      obtain ⟨q0, q1, q2, q3⟩ := (hX.belowN hb).c2
      go_wp2_with (go_at_call 31; go_must ((with_reducible refine (Run14_calls regs a c ln l HLN.out ab k cb (ofWords r) HOL.out A 0 HA.out HE.out wr (g1.belowN hb) (by omega) hB.at_).mono ?_); rintro e w2 ⟨a2, c2, rfl, hown2, hb2⟩; have hC2 := hb.trans (hb2.mono hb.size); obtain ⟨q0, q1, q2, q3⟩ := (hX.belowN hC2).c2))
      go_ret2
      exact ⟨rfl, hb0.trans (hC2.mono hb0.size)⟩
set_option maxRecDepth 100000 in
set_option maxHeartbeats 6400000 in
theorem Along_good (nr : Nat) (a : Option Addr) (c ln : Nat) (l : List OpD) (hln : ln = l.length) (ra : Option Addr) (rn rc : Nat) (r : List UInt64) (hrn : rn = r.length) (i : Nat) (f : Fo) (hf : l = f.flat) (g : Good nr f) (h1 : rn ≤ nr) (hi : i < nr) (w : World) (h : At w a l) (hr : At w ra r) :
    Calls Try.prog 35 #[.agg #[.int .i64 (nr : Int), .slice a ln c], .slice ra rn rc, .int .i64 (i : Int)] w fun e w' => ∃ a' c', e = .returned (.tuple #[.slice a' nr c', .int .i64 0]) ∧ Own w' w.heap.size 68 a' c' (alongA nr l r i) ∧ Below w.heap.size w w' := by
  have r2 : nr ≤ 64 := by have := g.r2; omega
  have hl : ln ≤ 4096 := by rw [hln, hf]; exact g.len
  have hE : dualE nr l rn = 0 := by rw [hf]; exact dualE_of g (by omega)
  obtain ⟨j1, j2, j3, j4⟩ := along_run g (r := r) (i := i) (by omega) hi
  rw [← hf] at j1 j2 j3
  obtain ⟨OUT, hOUT⟩ : ∃ OUT, alongA nr l r i = OUT := ⟨_, rfl⟩
  rw [hOUT] at j3 ⊢
  obtain ⟨A2, hA2⟩ : ∃ A2, dualR nr l (alongL r i) = A2 := ⟨_, rfl⟩
  rw [hA2] at j2 j3
  have hln2 := alongL_len r i
  have HJ1 := hide j1
  have HJ2 := hide j2.symm
  have HJ3 := hide j3
  have HA2 := hide hA2
  have HE := hide hE
  have HL2 := hide hln2
  clear g hf j1 j2 j3 j4 hOUT hA2 hE hln2
  obtain ⟨v0, hv0⟩ : ∃ v0, (r[i]?).getD 0 = v0 := ⟨_, rfl⟩
  have HV0 := hide hv0
  clear hv0
  have hb0 := below_new12 w (.cells #[.int .i64 (nr : Int), .slice a ln c] 24)
  have hX := Blk.new w 24 #[.int .i64 (nr : Int), .slice a ln c]
  have g1 := h.belowN hb0
  have hr1 := hr.belowN hb0
  have HRN := hide hrn
  have HLN := hide hln
  obtain ⟨A, hA⟩ : ∃ A, dualR (nr : Int) l (ofWords r) = A := ⟨_, rfl⟩
  have HA := hide hA
  clear hA hrn hln
  obtain ⟨w1, hw1⟩ : ∃ w1, w1 = w.alloc (.cells #[.int .i64 (nr : Int), .slice a ln c] 24) := ⟨_, rfl⟩
  rw [← hw1] at hb0 hX g1 hr1
  have hz1l : w1.heap.size ≤ w.heap.size + 1 := by rw [hw1]; simp
  have hz1r : w.heap.size + 1 ≤ w1.heap.size := by rw [hw1]; simp
  have HW1 := hide hw1.symm
  clear hw1
  go_enter Try.func35, Try.ntmps35
  go_wp2
  rw [HW1.out]
  clear HW1
  go_loopw [8, 9] (fun bv iv wr => ∃ (k : Nat) (ab : Option Addr) (cb : Nat), iv = .int .i64 k ∧ k ≤ rn ∧ bv = .slice ab k cb ∧ Own wr w1.heap.size 92 ab cb (ofWords (r.take k)) ∧ Below w1.heap.size w1 wr) (fun _ iv _ => rn - (intOf iv).toNat)
  case atStart => exact ⟨0, _, 0, rfl, by omega, rfl, by have h := Own.new w1 (Nat.le_refl _) 92 DuD; rw [show w1.heap.size = w.heap.size + 1 by omega] at h ⊢; exact h, below_new12 w1 _⟩
  case round =>
    obtain ⟨k, ab, cb, rfl, hk, rfl, hB, hb⟩ := hrel
    have hzr := hb.size
    by_cases hlt : k < rn
    · obtain ⟨b1, off1, x, rfl, hx, c0⟩ := hr1.getU hb (show k < r.length by have := HRN.out; omega)
      have HX := hide (show ofWords (r.take k) ++ [(⟨x, 0⟩ : DuD)] = ofWords (r.take (k + 1)) by rw [List.take_add_one, hx.out]; simp [ofWords])
      have HKL := hide (show k = (ofWords (r.take k)).length by have := HRN.out; rw [ofWords_length, List.length_take]; omega)
      go_wp2_with (at_builtin; refine wpList_push tyD hB (⟨x, 0⟩ : DuD) rfl rfl rfl rfl rfl rfl HKL.out hzr (by omega) ?_; intro a8 c8 w8 hown8 hg8 _)
      go_roundw
      case rel => exact ⟨k + 1, a8, c8, by go_num, by omega, rfl, by rw [← HX.out]; exact hown8, below_push hb hB hg8 hzr⟩
      case measure => simp [intOf] <;> omega
    · have hkn : k = rn := by omega
      subst hkn
      rw [show r.take k = r by rw [HRN.out, List.take_length]] at hB
      have HOL := hide (show k = (ofWords r).length by rw [ofWords_length, HRN.out])
      clear hlt hk
      obtain ⟨q0, q1, q2, q3⟩ := (hX.belowN hb).c2
      go_wp2_with (go_at_call 31; go_must ((with_reducible refine (Run14_calls nr a c ln l HLN.out ab k cb (ofWords r) HOL.out A 0 HA.out HE.out wr (g1.belowN hb) (by omega) hB.at_).mono ?_); rintro e w2 ⟨a2, c2, rfl, hown2, hb2⟩; have hC2 := hb.trans (hb2.mono hb.size); have hB2 := hB.belowN hb2; obtain ⟨q0, q1, q2, q3⟩ := (hX.belowN hC2).c2))
      have hz2 := hC2.size
      have hoL : (ofWords r).length = k := HOL.out.symm
      have hst : startD k (ofWords r) = ofWords r := by unfold startD; rw [hoL, Nat.sub_self]; simp
      rw [← hst] at hB2
      have HOW := hide hoL
      clear hst hoL hB hown2
      go_loopw [8] (fun bv wr => ∃ (n : Nat) (ab : Option Addr) (cb : Nat), bv = .slice ab n cb ∧ k ≤ n ∧ n ≤ max (i + 1) k ∧ n ≤ nr ∧ Own wr w1.heap.size 92 ab cb (startD n (ofWords r)) ∧ Below w1.heap.size w1 wr) (fun bv _ => i + 1 - lenV bv)
      case atStart => exact ⟨k, ab, cb, rfl, by omega, by omega, by omega, hB2, hC2⟩
      case round =>
        obtain ⟨n, ab', cb', rfl, hn1, hn2, hn3, hBn, hbn⟩ := hrel
        have hzn := hbn.size
        have hnL : (startD n (ofWords r)).length = n := startD_length _ _ (by have := HOW.out; omega)
        by_cases hlt : n ≤ i
        · have HKL := hide hnL.symm
          have HXS := hide (startD_snoc (n := n) (L := ofWords r) (by have := HOW.out; omega))
          clear hnL
          go_wp2_with (at_builtin; refine wpList_push tyD hBn (⟨0, 0⟩ : DuD) rfl rfl rfl rfl rfl rfl HKL.out hzn (by omega) ?_; intro a8 c8 w8 hown8 hg8 _)
          go_roundw
          case rel => exact ⟨n + 1, a8, c8, ⟨rfl, rfl, rfl⟩, by omega, by omega, by omega, by rw [← HXS.out]; exact hown8, below_push hbn hBn hg8 hzn⟩
          case measure => simp [lenV] <;> omega
        · have hin : i < n := by omega
          rw [startD_same (i := i) (by have := HOW.out; omega) (by omega) (by have := HOW.out; omega)] at hBn hnL
          have hx : (startD (i + 1) (ofWords r))[i]? = some ⟨v0, 0⟩ := by
            rw [startD_get, ofWords_get, ofWords_length, ← HV0.out]
            by_cases h9 : i < r.length
            · rw [if_pos h9, List.getElem?_eq_getElem h9]; rfl
            · rw [if_neg h9, if_pos (by omega), List.getElem?_eq_none (by omega)]; rfl
          obtain ⟨gd, hab, hgd1, hgd2⟩ := hBn.some_ (fun e => by rw [e] at hnL; simp at hnL; omega)
          subst hab
          have hs := hBn.setAt i 1 ⟨v0, 1⟩ ⟨v0, 0⟩ (.int .u64 1) hx (by decide) rfl
          have e3 : (startD (i + 1) (ofWords r)).set i ⟨v0, 1⟩ = alongL r i := by unfold alongL; rw [HV0.out]
          rw [e3] at hs
          have d1 := hBn.cellAt hx (f := 1) rfl
          have d3 := hBn.frozen (i * 2 + 1)
          simp only [Flat.n] at d1 hs
          have hbs := hbn.setCell (p := ⟨gd, i * 2 + 1, none⟩) (by simpa using hgd1) (.int .u64 1)
          have HN2 := hide (show n = (alongL r i).length by rw [HL2.out, ← HRN.out]; omega)
          obtain ⟨w3, hw3⟩ : ∃ w3, w3 = wr.setCell ⟨gd, i * 2 + 1, none⟩ (.int .u64 1) := ⟨_, rfl⟩
          rw [← hw3] at hs hbs
          have HW3 := hide hw3.symm
          obtain ⟨q0, q1, q2, q3⟩ := (hX.belowN hbs).c2
          rw [hw3] at q0 q1 q2 q3
          clear hw3 hnL hlt hx e3
          go_wp2_with (go_at_call 31; go_must (rw [HW3.out]; (with_reducible refine (Run14_calls nr a c ln l HLN.out _ n cb' (alongL r i) HN2.out A2 0 HA2.out (by rw [HN2.out]; exact HJ1.out) w3 (g1.belowN hbs) (by omega) hs.at_).mono ?_); rintro e w4 ⟨a4, c4, rfl, hown4, hb4⟩; have hC4 := hbs.trans (hb4.mono hbs.size)))
          have hz4 := hC4.size
          rw [← HJ2.out]
          go_loopw [14, 15] (fun bv iv wr => ∃ (j : Nat) (ab : Option Addr) (cb : Nat), iv = .int .i64 j ∧ j ≤ nr ∧ bv = .slice ab j cb ∧ Own wr w4.heap.size 68 ab cb ((A2.take j).map (·.d)) ∧ Below w4.heap.size w4 wr) (fun _ iv _ => nr - (intOf iv).toNat)
          case atStart => exact ⟨0, _, 0, rfl, by omega, rfl, Own.new w4 (Nat.le_refl _) _ UInt64, below_new12 w4 _⟩
          case round =>
            obtain ⟨j, ab5, cb5, rfl, hj, rfl, hD, hb5⟩ := hrel
            have hz5 := hb5.size
            by_cases hlt : j < nr
            · obtain ⟨b1, off1, x, rfl, hx, c0, c1'⟩ := hown4.at_.getDu hb5 (show j < A2.length by have := HJ2.out; omega)
              have HX := hide (map_d_snoc hx.out)
              have HKL := hide (show j = ((A2.take j).map (·.d)).length by have := HJ2.out; rw [List.length_map, List.length_take]; omega)
              go_wp2_with (at_builtin; refine wpList_push tyU hD x.d rfl rfl rfl rfl rfl rfl HKL.out hz5 (by omega) ?_; intro a8 c8 w8 hown8 hg8 _)
              go_roundw
              case rel => exact ⟨j + 1, a8, c8, by go_num, by omega, rfl, by rw [← HX.out]; exact hown8, below_push hb5 hD hg8 hz5⟩
              case measure => simp [intOf] <;> omega
            · have hjn : j = nr := by omega
              subst hjn
              rw [show A2.take j = A2 by rw [HJ2.out, List.take_length], HJ3.out] at hD
              clear hlt hj
              go_wp2
              go_ret2
              exact ⟨ab5, cb5, rfl, hD.mono (by omega), hb0.trans ((hC4.trans (hb5.mono hC4.size)).mono hb0.size)⟩
theorem Along14_calls (regs : Int) (a : Option Addr) (c ln : Nat) (l : List OpD) (hln : ln = l.length) (ra : Option Addr) (rn rc : Nat) (r : List UInt64) (hrn : rn = r.length) (i : Int) (A : List UInt64) (E : Int) (hA : alongA regs l r i = A) (hE : alongE regs l rn i = E) (w : World) (h : At w a l) (hl : ln ≤ 1000000) (hr : At w ra r) (hrb : rn ≤ 1000000) :
    Calls Try.prog 35 #[.agg #[.int .i64 regs, .slice a ln c], .slice ra rn rc, .int .i64 i] w fun e w' => ∃ a' c', e = .returned (.tuple #[.slice a' A.length c', .int .i64 E]) ∧ Own w' w.heap.size 68 a' c' A ∧ Below w.heap.size w w' := by
  by_cases hc : E = 0
  · subst hc
    obtain ⟨f, hf, g, hn, h0, h1⟩ := alongE_good hE
    obtain ⟨nr, rfl⟩ : ∃ nr : Nat, regs = nr := ⟨regs.toNat, by have := g.r1; omega⟩
    obtain ⟨j, rfl⟩ : ∃ j : Nat, i = j := ⟨i.toNat, by omega⟩
    refine (Along_good nr a c ln l hln ra rn rc r hrn j f hf g (by omega) (by omega) w h hr).mono ?_
    rintro e w' ⟨a', c', rfl, o, hb⟩
    rw [hA] at o
    have hAl : A.length = nr := by rw [← hA, hf, alongA_len g (by omega) h0 h1]; omega
    exact ⟨a', c', by rw [hAl], o, hb⟩
  · have hA0 : A = [] := by rw [← hA]; exact alongA_bad (by rw [← hrn, hE]; exact hc)
    subst hA0
    have key : Calls Try.prog 35 #[.agg #[.int .i64 regs, .slice a ln c], .slice ra rn rc, .int .i64 i] w fun e w' => e = .returned (.tuple #[.slice none 0 0, .int .i64 E]) ∧ Below w.heap.size w w' := by
      by_cases h0 : dualE regs l rn = 0
      · unfold alongE at hE
        rw [if_neg (by simpa using h0)] at hE
        by_cases hi : i < 0 ∨ regs ≤ i
        · rw [if_pos hi] at hE
          subst hE
          by_cases hi0 : i < 0
          · exact Along_arg1 regs a c ln l hln ra rn rc r hrn i h0 hi0 w h hl hr hrb
          · exact Along_arg2 regs a c ln l hln ra rn rc r hrn i h0 (by omega) (by omega) w h hl hr hrb
        · rw [if_neg hi] at hE
          exact absurd hE.symm hc
      · unfold alongE at hE
        rw [if_pos h0] at hE
        exact Along_bad regs a c ln l hln ra rn rc r hrn i E hE hc w h hl hr hrb
    refine key.mono ?_
    rintro e w' ⟨rfl, hb⟩
    exact ⟨none, 0, rfl, Own.none _ _ _, hb⟩
end Go.Proofs.Ythncfoompoheoaa

/- Chapter 14: ref14.Pull. -/
namespace Go.Proofs.Ythncfoompoheoaa
set_option linter.unusedVariables false
set_option linter.unusedSimpArgs false
open Go.RowKit
theorem pullE_dual {regs : Int} {l : List OpD} {rn wn : Nat} (h : dualE regs l rn ≠ 0) : pullE regs l rn wn = dualE regs l rn := by
  unfold dualE at h ⊢
  unfold pullE
  by_cases hc : checkS regs l ≠ 0
  · rw [if_pos hc, if_pos hc]
  · rw [if_neg hc] at h ⊢
    rw [if_neg hc]
    by_cases hn : regs < (rn : Int)
    · rw [if_pos hn, if_pos (.inl hn)]
    · rw [if_neg hn] at h; exact absurd rfl h
theorem alongE_zero {regs : Int} {l : List OpD} {rn : Nat} : alongE regs l rn 0 = dualE regs l rn := by
  unfold alongE
  by_cases h : dualE regs l rn = 0
  · obtain ⟨f, e, g, hn⟩ := dualE_good h
    have := g.r1
    rw [if_neg (by simpa using h), if_neg (by omega), h]
  · rw [if_pos h]
theorem take_snoc_some {α : Type} {l : List α} {k : Nat} {x : α} (h : l[k]? = some x) : l.take k ++ [x] = l.take (k + 1) := by
  rw [List.take_add_one, h]; rfl
set_option maxRecDepth 100000 in
set_option maxHeartbeats 1600000 in
theorem Pull14_bad (regs : Int) (a : Option Addr) (c ln : Nat) (l : List OpD) (hln : ln = l.length) (ra : Option Addr) (rn rc : Nat) (r : List UInt64) (hrn : rn = r.length) (wa : Option Addr) (wn wc : Nat) (E : Int) (hE : dualE regs l rn = E) (h0 : E ≠ 0) (w : World) (h : At w a l) (hl : ln ≤ 1000000) (hr : At w ra r) (hrb : rn ≤ 1000000) :
    Calls Try.prog 26 #[.agg #[.int .i64 regs, .slice a ln c], .slice ra rn rc, .slice wa wn wc] w fun e w' => e = .returned (.tuple #[.slice none 0 0, .int .i64 E]) ∧ Below w.heap.size w w' := by
  have hb0 := below_new12 w (.cells #[.int .i64 regs, .slice a ln c] 24)
  have hX := Blk.new w 24 #[.int .i64 regs, .slice a ln c]
  have g1 := h.belowN hb0
  have hr1 := hr.belowN hb0
  have e1 : (E == 0) = false := by simpa using h0
  have e2 : (E != 0) = true := by simpa using h0
  have HP := hide (fun w' h1 h2 => Along14_calls regs a c ln l hln ra rn rc r hrn 0 _ E rfl (by rw [alongE_zero]; exact hE) w' h1 hl h2 hrb)
  clear h0 hE hrn hln
  go_enter Try.func26, Try.ntmps26
  go_wp2_with (go_at_call 35; go_must ((with_reducible refine (HP.out _ g1 hr1).mono ?_); rintro e w2 ⟨a2, c2, rfl, hown2, hC2⟩))
  go_ret2
  exact ⟨rfl, hb0.trans (hC2.mono hb0.size)⟩
set_option maxRecDepth 100000 in
set_option maxHeartbeats 1600000 in
theorem Pull14_dims (regs : Int) (a : Option Addr) (c ln : Nat) (l : List OpD) (hln : ln = l.length) (ra : Option Addr) (rn rc : Nat) (r : List UInt64) (hrn : rn = r.length) (wa : Option Addr) (wn wc : Nat) (hE : dualE regs l rn = 0) (hw : regs < (wn : Int)) (w : World) (h : At w a l) (hl : ln ≤ 1000000) (hr : At w ra r) (hrb : rn ≤ 1000000) :
    Calls Try.prog 26 #[.agg #[.int .i64 regs, .slice a ln c], .slice ra rn rc, .slice wa wn wc] w fun e w' => e = .returned (.tuple #[.slice none 0 0, .int .i64 10]) ∧ Below w.heap.size w w' := by
  have hb0 := below_new12 w (.cells #[.int .i64 regs, .slice a ln c] 24)
  have hX := Blk.new w 24 #[.int .i64 regs, .slice a ln c]
  have g1 := h.belowN hb0
  have hr1 := hr.belowN hb0
  have HP := hide (fun w' h1 h2 => Along14_calls regs a c ln l hln ra rn rc r hrn 0 _ 0 rfl (by rw [alongE_zero]; exact hE) w' h1 hl h2 hrb)
  clear hE hrn hln
  go_enter Try.func26, Try.ntmps26
  go_wp2_with (go_at_call 35; go_must ((with_reducible refine (HP.out _ g1 hr1).mono ?_); rintro e w2 ⟨a2, c2, rfl, hown2, hC2⟩; obtain ⟨q0, q1, q2, q3⟩ := (hX.belowN hC2).c2))
  go_ret2
  exact ⟨rfl, hb0.trans (hC2.mono hb0.size)⟩
set_option maxRecDepth 100000 in
set_option maxHeartbeats 6400000 in
theorem Pull14_good (nr : Nat) (a : Option Addr) (c ln : Nat) (l : List OpD) (hln : ln = l.length) (ra : Option Addr) (rn rc : Nat) (r : List UInt64) (hrn : rn = r.length) (wa : Option Addr) (wn wc : Nat) (x : List UInt64) (hwn : wn = x.length) (f : Fo) (hf : l = f.flat) (g : Good nr f) (h1 : rn ≤ nr) (h2 : wn ≤ nr) (w : World) (h : At w a l) (hr : At w ra r) (hw : At w wa x) :
    Calls Try.prog 26 #[.agg #[.int .i64 (nr : Int), .slice a ln c], .slice ra rn rc, .slice wa wn wc] w fun e w' => ∃ a' c', e = .returned (.tuple #[.slice a' nr c', .int .i64 0]) ∧ Own w' w.heap.size 68 a' c' (pullA nr l r x) ∧ Below w.heap.size w w' := by
  have r2 : nr ≤ 64 := by have := g.r2; omega
  have hl : ln ≤ 4096 := by rw [hln, hf]; exact g.len
  have hE : dualE nr l rn = 0 := by rw [hf]; exact dualE_of g (by omega)
  have HPA := hide (fun (i : Nat) (hi : i < nr) => pull_along g (r := r) (w := x) (by omega) (by omega) i hi)
  have HAL := hide (fun (i : Nat) (hi : i < nr) => alongA_len g (r := r) (i := (i : Int)) (by omega) (by omega) (by omega))
  have HPL := hide (show (pullA nr l r x).length = nr by rw [hf, pullA_good g (by omega) (by omega), backA_length, startR_length _ _ (by omega)]; simp)
  rw [← hf] at HPA HAL
  have HP : Hid (∀ (i : Nat) (I : Int) (hI : I = (i : Int)) (hi : i < nr) (w' : World), At w' a l → At w' ra r → Calls Try.prog 35 #[.agg #[.int .i64 (nr : Int), .slice a ln c], .slice ra rn rc, .int .i64 I] w' fun e w2 => ∃ a' c', e = .returned (.tuple #[.slice a' nr c', .int .i64 0]) ∧ Own w2 w'.heap.size 68 a' c' (alongA nr l r i) ∧ Below w'.heap.size w' w2) := hide fun i I hI hi w' h1' h2' => by subst hI; exact Along_good nr a c ln l hln ra rn rc r hrn i f hf g h1 hi w' h1' h2'
  have hb0 := below_new12 w (.cells #[.int .i64 (nr : Int), .slice a ln c] 24)
  have hX := Blk.new w 24 #[.int .i64 (nr : Int), .slice a ln c]
  have g1 := h.belowN hb0
  have hr1 := hr.belowN hb0
  have hw1 := hw.belowN hb0
  have r1 : 1 ≤ nr := by have := g.r1; omega
  have HWN := hide hwn
  obtain ⟨PA, hPA⟩ : ∃ PA, pullA nr l r x = PA := ⟨_, rfl⟩
  rw [hPA] at HPA HPL ⊢
  clear g hf hE hrn hln hwn hPA
  obtain ⟨w1, hw1'⟩ : ∃ w1, w1 = w.alloc (.cells #[.int .i64 (nr : Int), .slice a ln c] 24) := ⟨_, rfl⟩
  rw [← hw1'] at hb0 hX g1 hr1 hw1
  have hz1 : w1.heap.size = w.heap.size + 1 := by rw [hw1']; simp
  have HW1 := hide hw1'.symm
  obtain ⟨o0, o1, o2, o3⟩ := hX.c2
  rw [hw1'] at o0 o1 o2 o3
  clear hw1'
  go_enter Try.func26, Try.ntmps26
  go_wp2_with (go_at_call 35; go_must (rw [HW1.out]; (with_reducible refine (HP.out 0 0 rfl (by omega) _ g1 hr1).mono ?_); rintro e w2 ⟨a2, c2, rfl, hown2, hC2⟩; obtain ⟨q0, q1, q2, q3⟩ := (hX.belowN hC2).c2))
  have hz2 := hC2.size
  clear hown2
  go_loopw [10, 11] (fun bv iv wr => ∃ (i : Nat) (ab : Option Addr) (cb : Nat), iv = .int .i64 i ∧ i ≤ nr ∧ bv = .slice ab i cb ∧ Own wr w2.heap.size 68 ab cb (PA.take i) ∧ Below w2.heap.size w2 wr) (fun _ iv _ => nr - (intOf iv).toNat)
  case atStart => exact ⟨0, _, 0, rfl, by omega, rfl, Own.new w2 (Nat.le_refl _) _ UInt64, below_new12 w2 _⟩
  case round =>
    obtain ⟨i, ab, cb, rfl, hi, rfl, hB, hb⟩ := hrel
    obtain ⟨wo, rfl⟩ : ∃ wo : World, wo = wr := ⟨_, rfl⟩
    have hzo := hb.size
    have hC3 := hC2.trans (hb.mono hz2)
    obtain ⟨q0, q1, q2, q3⟩ := (hX.belowN hC3).c2
    by_cases hlt : i < nr
    · have hpa := HPA.out i hlt
      have hal := HAL.out i hlt
      obtain ⟨L, hL⟩ : ∃ L, alongA nr l r i = L := ⟨_, rfl⟩
      have HL := hide hL
      rw [hL] at hpa hal
      obtain ⟨V, hV⟩ : ∃ V, dotU x L = V := ⟨_, rfl⟩
      rw [hV] at hpa
      have HPA2 := hide hpa
      have HLL := hide (hal.trans (by simp) : L.length = nr)
      have HV := hide hV
      clear hpa hal hL hV
      go_wp2_with (go_at_call 35; go_must ((with_reducible refine (HP.out i i rfl hlt _ (g1.belowN hC3) (hr1.belowN hC3)).mono ?_); rw [HL.out]; rintro e w4 ⟨a4, c4, rfl, hown4, hb4⟩; have hC4 := hC3.trans (hb4.mono hC3.size)))
      have hz4 := hb4.size
      have hB4 := hB.belowN hb4
      have hw4 := hw1.belowN hC4
      go_loopw [14, 15] (fun sv iv wr => ∃ k : Nat, iv = .int .i64 k ∧ k ≤ wn ∧ sv = .int .u64 ((dotU (x.take k) L).toNat : Int) ∧ Below w4.heap.size w4 wr) (fun _ iv _ => wn - (intOf iv).toNat)
      case atStart => exact ⟨0, rfl, by omega, by rw [List.take_zero, dotU_nil]; rfl, Below.refl _ _⟩
      case round =>
        obtain ⟨k, rfl, hk, rfl, hb5⟩ := hrel
        have hz5 := hb5.size
        by_cases hlt2 : k < wn
        · obtain ⟨b1, off1, y, rfl, hy, e0⟩ := hw4.getU hb5 (show k < x.length by have := HWN.out; omega)
          obtain ⟨b2, off2, z, rfl, hz, e1⟩ := hown4.at_.getU hb5 (show k < L.length by have := HLL.out; omega)
          have HD := hide (dotU_snoc x L k y z hy.out hz.out)
          obtain ⟨s, hs⟩ : ∃ s, dotU (x.take k) L = s := ⟨_, rfl⟩
          rw [hs] at HD ⊢
          clear hs
          have HT := hide (fun W => Times_calls y z W)
          obtain ⟨p, hp⟩ : ∃ p, y * z = p := ⟨_, rfl⟩
          rw [hp] at HT HD
          clear hp
          have HPP := hide (fun W => Plus_calls s p W)
          obtain ⟨q, hq⟩ : ∃ q, s + p = q := ⟨_, rfl⟩
          rw [hq] at HPP HD
          clear hq
          have hd0 : Below wr.heap.size wr wr.drew := Below.drew (Below.refl _ _)
          have hl1 := World.block_lt_of_cell? _ _ e0
          have hkn1 : (k : Int) < (nr : Int) := by omega
          have hkn2 : (0 : Int) ≤ (k : Int) := by omega
          have hl2 := World.block_lt_of_cell? _ _ e1
          go_wp2_with fail
          go_region_held3 (fun w' => w'.cell? ⟨b1, off1 + k, none⟩ = some (.int .u64 (y.toNat : Int)) ∧ w'.cell? ⟨b2, off2 + k, none⟩ = some (.int .u64 (z.toNat : Int))) (go_keep)
            (first
              | (go_at_call 78; go_must ((with_reducible refine (HPP.out _).mono ?_); rintro e w7 ⟨rfl, hb7⟩; have hB7 := hB6.trans (hb7.mono hB6.size); obtain ⟨y0, _⟩ := bcell hB7; have t0 := (y0 b1 _ hl1).trans e0; have t1 := (y0 b2 _ hl2).trans e1; clear y0))
              | (go_at_call 79; go_must ((with_reducible refine (HT.out _).mono ?_); rintro e w6 ⟨rfl, hb6⟩; have hB6 := hd0.trans (hb6.mono hd0.size); obtain ⟨y0, _⟩ := bcell hB6; have s0 := (y0 b1 _ hl1).trans e0; have s1 := (y0 b2 _ hl2).trans e1; clear y0)))
          go_wp2
          go_roundw
          case rel => exact ⟨k + 1, by go_num, by omega, by rw [HD.out], hb5.trans (hB7.mono hz5)⟩
          case measure => simp [intOf] <;> omega
        · have hkn : k = wn := by omega
          have e5 : dotU (x.take k) L = V := by rw [hkn, HWN.out, List.take_length]; exact HV.out
          rw [e5]
          have hB5 := hB4.belowN hb5
          have hC5 := hb.trans ((hb4.trans (hb5.mono hz4)).mono hzo)
          have HKL := hide (show i = (PA.take i).length by have := HPL.out; rw [List.length_take]; omega)
          have HXS := hide (take_snoc_some HPA2.out)
          have hz9 := hC5.size
          clear hkn e5
          go_wp2_with (at_builtin; refine wpList_push tyU hB5 V rfl rfl rfl rfl rfl rfl HKL.out hz9 (by omega) ?_; intro a8 c8 w8 hown8 hg8 _)
          go_roundw
          case rel => exact ⟨i + 1, by omega, by omega, a8, c8, ⟨rfl, rfl, rfl⟩, by rw [← HXS.out]; exact hown8, below_push hC5 hB5 hg8 hz9⟩
          case measure => simp [intOf] <;> omega
    · have hin : i = nr := by omega
      subst hin
      rw [show PA.take i = PA by rw [← HPL.out, List.take_length]] at hB
      clear hlt hi
      go_wp2
      go_ret2
      exact ⟨ab, cb, rfl, hB.mono (by omega), hb0.trans (hC3.mono hb0.size)⟩
theorem Pull14_calls (regs : Int) (a : Option Addr) (c ln : Nat) (l : List OpD) (hln : ln = l.length) (ra : Option Addr) (rn rc : Nat) (r : List UInt64) (hrn : rn = r.length) (wa : Option Addr) (wn wc : Nat) (x : List UInt64) (hwn : wn = x.length) (A : List UInt64) (E : Int) (hA : pullA regs l r x = A) (hE : pullE regs l rn wn = E) (w : World) (h : At w a l) (hl : ln ≤ 1000000) (hr : At w ra r) (hw : At w wa x) (b1 : rn ≤ 1000000) (b2 : wn ≤ 1000000) :
    Calls Try.prog 26 #[.agg #[.int .i64 regs, .slice a ln c], .slice ra rn rc, .slice wa wn wc] w fun e w' => ∃ a' c', e = .returned (.tuple #[.slice a' A.length c', .int .i64 E]) ∧ Own w' w.heap.size 68 a' c' A ∧ Below w.heap.size w w' := by
  by_cases hc : E = 0
  · subst hc
    obtain ⟨f, hf, g, hn, hm⟩ := pull_good hE
    obtain ⟨nr, rfl⟩ : ∃ nr : Nat, regs = nr := ⟨regs.toNat, by have := g.r1; omega⟩
    refine (Pull14_good nr a c ln l hln ra rn rc r hrn wa wn wc x hwn f hf g (by omega) (by omega) w h hr hw).mono ?_
    rintro e w' ⟨a', c', rfl, o, hb⟩
    rw [hA] at o
    have hAl : A.length = nr := by rw [← hA, hf, pullA_good g (by omega) (by omega), backA_length, startR_length _ _ (by omega)]; simp
    exact ⟨a', c', by rw [hAl], o, hb⟩
  · have hA0 : A = [] := by rw [← hA]; exact pullA_bad (by rw [← hrn, ← hwn, hE]; exact hc)
    subst hA0
    have key : Calls Try.prog 26 #[.agg #[.int .i64 regs, .slice a ln c], .slice ra rn rc, .slice wa wn wc] w fun e w' => e = .returned (.tuple #[.slice none 0 0, .int .i64 E]) ∧ Below w.heap.size w w' := by
      by_cases h0 : dualE regs l rn = 0
      · obtain ⟨f, hf, g, hn⟩ := dualE_good h0
        have hm : regs < (wn : Int) := Classical.byContradiction fun hm => hc (by rw [← hE, hf]; exact pull_of_good g hn (by omega))
        have e10 : E = 10 := by rw [← hE, hf]; exact pullE_dims g (.inr hm)
        subst e10
        exact Pull14_dims regs a c ln l hln ra rn rc r hrn wa wn wc h0 hm w h hl hr b1
      · rw [pullE_dual h0] at hE
        exact Pull14_bad regs a c ln l hln ra rn rc r hrn wa wn wc E hE hc w h hl hr b1
    refine key.mono ?_
    rintro e w' ⟨rfl, hb⟩
    exact ⟨none, 0, rfl, Own.none _ _ _, hb⟩
end Go.Proofs.Ythncfoompoheoaa
