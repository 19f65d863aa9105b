/- Several texts of mine in one file. -/
import Derived.Test.YtcamcnahkdiefaaGreatYMNaf
import Derived.Test.YtcamcnahkdiefaaGreatYMNac
import Derived.Test.YtcamcnahkdiefaaGreatYMNae
import Derived.Lib.AppendZeros
import Derived.Test.YtcamcnahkdiefaaGreatYMNad
import Derived.Test.YtcamcnahkdiefaaGreatYMNaa
import Derived.IntWalk
/- Several texts of mine in one file: Sm. -/
/- forward's contracts with their results named; is a program small (layer 13's law)? -/
namespace Go.Proofs.YtcamcnahkdiefaaGreat
set_option linter.unusedVariables false
set_option linter.unusedSimpArgs false
open Go.RowKit

theorem RunN (regs : Int) (a : Option Addr) (c ln : Nat) (l : List OpD) (ra : Option Addr) (rc rn : Nat) (r : List UInt64) (w : World) (X : List UInt64) (E : Int) (hln : ln = l.length) (hrn : rn = r.length) (hX : uptoS regs l r (-1) = X) (hE : dimsS regs l r.length = E)
    (h : At w a l) (hl : ln ≤ 1000000) (hr : At w ra r) (hrl : rn ≤ 1000000) :
    Calls Tryz.prog 32 #[.agg #[.int .i64 regs, .slice a ln c], .slice ra rn rc] w fun e w' => ∃ a' c', e = .returned (.tuple #[.slice a' X.length c', .int .i64 E]) ∧ Own w' w.heap.size 50 a' c' X ∧ Below w.heap.size w w' := by
  subst hln hrn hX hE
  exact Run_calls regs a c l ra rc r w h hl hr 

end Go.Proofs.YtcamcnahkdiefaaGreat

/- Several texts of mine in one file: C23a, Ch, C23b, C23c, C23d. -/
/- Chapter 10: Pair and Dims, the program's and the document's. -/
namespace Go.Proofs.YtcamcnahkdiefaaGreat
set_option linter.unusedVariables false
set_option linter.unusedSimpArgs false
open Go.RowKit
def pairS (p q : PrD) : Int := firstS [p, q]
theorem firstL_pair (p q : PrD) : ∀ ks : List Nat, firstL [p, q] ks = 0 → firstL [p] ks = 0 ∧ firstL [q] ks = 0 := by
  intro ks
  induction ks with
  | nil => intro _; exact ⟨rfl, rfl⟩
  | cons k ks ih =>
    intro h
    simp only [firstL, rowE] at h ⊢
    by_cases h1 : errI k p = 0
    · by_cases h2 : errI k q = 0
      · simp only [h1, h2, ne_eq, not_true_eq_false, if_false] at h ⊢; exact ih h
      · simp only [h1, ne_eq, not_true_eq_false, if_false, h2, not_false_eq_true, if_true] at h
    · simp only [ne_eq, h1, not_false_eq_true, if_true] at h
theorem pairS_ok {p q : PrD} (h : pairS p q = 0) : checkS p.regs p.l = 0 ∧ checkS q.regs q.l = 0 := by
  obtain ⟨h1, h2⟩ := firstL_pair p q _ h
  exact ⟨(firstS_one p).symm.trans h1, (firstS_one q).symm.trans h2⟩
def dimsC (r1 r2 x t : Int) : Int := if (x < 1 ∨ 64 < x ∨ t < 0 ∨ 64 < t) ∨ r1 < x + t + 1 ∨ r2 < x + t then 10 else 0
theorem Pair_calls (p q : PrD) (w : World) (h : At w p.a p.l) (hl : p.l.length ≤ 1000000) (h' : At w q.a q.l) (hl' : q.l.length ≤ 1000000) (E : Int) (hE : pairS p q = E) :
    Calls Tryz.prog 75 #[.agg #[.int .i64 p.regs, .slice p.a p.l.length p.c], .agg #[.int .i64 q.regs, .slice q.a q.l.length q.c]] w fun e w' => e = .returned (.int .i64 E) ∧ Below w.heap.size w w' := by
  obtain ⟨w0, hw0⟩ : ∃ w0, w0 = (w.alloc (.cells #[.int .i64 p.regs, .slice p.a p.l.length p.c] 24)).alloc (.cells #[.int .i64 q.regs, .slice q.a q.l.length q.c] 24) := ⟨_, rfl⟩
  have hb0 : Below w.heap.size w w0 := by rw [hw0]; exact ((below_new _ _).alloc (by simp) _)
  have hb : Below w.heap.size w (w0.alloc (.cells #[.int .i64 p.regs, .slice p.a p.l.length p.c, .int .i64 q.regs, .slice q.a q.l.length q.c] 200)) := hb0.alloc hb0.size _
  have hat : At (w0.alloc (.cells #[.int .i64 p.regs, .slice p.a p.l.length p.c, .int .i64 q.regs, .slice q.a q.l.length q.c] 200)) (some ⟨w0.heap.size, 0, none⟩) [p, q] :=
    At.ofBlk (g := w0.heap.size) (T := 200) (Blk.new w0 200 #[.int .i64 p.regs, .slice p.a p.l.length p.c, .int .i64 q.regs, .slice q.a q.l.length q.c]) ([p, q] : List PrD) rfl
  have hg : w0.heap.size = w.heap.size + 1 + 1 := by rw [hw0]; simp
  have HF : Calls Tryz.prog 123 #[.slice (some ⟨w0.heap.size, 0, none⟩) 2 2] (w0.alloc (.cells #[.int .i64 p.regs, .slice p.a p.l.length p.c, .int .i64 q.regs, .slice q.a q.l.length q.c] 200)) fun e w' => e = .returned (.int .i64 (firstS [p, q])) ∧ Below (w0.alloc (.cells #[.int .i64 p.regs, .slice p.a p.l.length p.c, .int .i64 q.regs, .slice q.a q.l.length q.c] 200)).heap.size (w0.alloc (.cells #[.int .i64 p.regs, .slice p.a p.l.length p.c, .int .i64 q.regs, .slice q.a q.l.length q.c] 200)) w' :=
    first_calls (some ⟨w0.heap.size, 0, none⟩) 2 [p, q] _ hat (by simp) (fun r hr => by
      simp at hr
      rcases hr with rfl | rfl
      · exact ⟨h.belowN hb, hl⟩
      · exact ⟨h'.belowN hb, hl'⟩)
  have e : firstS [p, q] = E := hE
  rw [e, hg] at HF
  rw [hw0] at HF hb
  have HF := hide HF
  clear e hE hat hb0 hw0 hg
  go_enter Tryz.func75, Tryz.ntmps75
  go_wp2_with (go_at_call 123; go_must ((with_reducible refine (HF.out).mono ?_); rintro e w1 ⟨rfl, hb1⟩))
  go_ret
  exact ⟨rfl, hb.trans (hb1.mono hb.size)⟩
theorem Dims_calls (p q : PrD) (x t : Int) (hx : -9223372036854775808 ≤ x ∧ x ≤ 9223372036854775807) (ht : -9223372036854775808 ≤ t ∧ t ≤ 9223372036854775807) (w : World) :
    Calls Tryz.prog 76 #[.agg #[.int .i64 p.regs, .slice p.a p.l.length p.c], .agg #[.int .i64 q.regs, .slice q.a q.l.length q.c], .int .i64 x, .int .i64 t] w fun e w' => e = .returned (.int .i64 (dimsC p.regs q.regs x t)) ∧ Below w.heap.size w w' := by
  have hb0 : Below w.heap.size w ((w.alloc (.cells #[.int .i64 p.regs, .slice p.a p.l.length p.c] 24)).alloc (.cells #[.int .i64 q.regs, .slice q.a q.l.length q.c] 24)) := ((below_new _ _).alloc (by simp) _)
  go_enter Tryz.func76, Tryz.ntmps76
  go_wp2_with (go_at_call 124; go_must ((with_reducible refine (fail_calls _ _ _).mono ?_); rintro e w1 ⟨rfl, rfl⟩))
  all_goals
    go_ret
    refine ⟨?_, hb0⟩
    unfold dimsC
    first
      | (rw [if_pos (by omega)] <;> rfl)
      | (rw [if_neg (by omega)] <;> rfl)
end Go.Proofs.YtcamcnahkdiefaaGreat

/- Chapter 23, plain: what a chain's steps and losses are. -/
namespace Go.Proofs.YtcamcnahkdiefaaGreat
set_option linter.unusedVariables false
set_option linter.unusedSimpArgs false
open Go.RowKit
structure ChD where
  p : PrD
  q : PrD
  x : Int
  th : List UInt64
def ChD.bad (c : ChD) : Int := if pairS c.p c.q ≠ 0 then pairS c.p c.q else dimsC c.p.regs c.q.regs c.x c.th.length
structure ChD.Ok (c : ChD) : Prop where
  hp : ∃ f : Fo, c.p.l = f.flat ∧ Good c.p.regs f
  hq : ∃ f : Fo, c.q.l = f.flat ∧ Good c.q.regs f
  x1 : 1 ≤ c.x
  x2 : c.x ≤ 64
  t2 : c.th.length ≤ 64
  r1 : c.x + c.th.length + 1 ≤ c.p.regs
  r2 : c.x + c.th.length ≤ c.q.regs
theorem ChD.ok_of {c : ChD} (h : c.bad = 0) : c.Ok := by
  unfold ChD.bad at h
  by_cases h1 : pairS c.p c.q = 0
  · rw [if_neg (by simpa using h1)] at h
    obtain ⟨k1, k2⟩ := pairS_ok h1
    have hd : ¬ ((c.x < 1 ∨ 64 < c.x ∨ (c.th.length : Int) < 0 ∨ 64 < (c.th.length : Int)) ∨ c.p.regs < c.x + c.th.length + 1 ∨ c.q.regs < c.x + c.th.length) := by
      intro hh
      unfold dimsC at h
      rw [if_pos hh] at h
      omega
    exact ⟨good_of_check k1, good_of_check k2, by omega, by omega, by omega, by omega, by omega⟩
  · rw [if_pos h1] at h; exact absurd h h1
def ChD.may (c : ChD) (t : Int) (n : Nat) : Int := if t < 0 ∨ 65536 ≤ t then 2 else if (n : Int) ≠ c.x then 10 else 0
def ChD.beg (c : ChD) (t : Int) (xs : List UInt64) : List UInt64 := xs ++ c.th ++ [UInt64.ofNat t.toNat]
noncomputable def ChD.step (c : ChD) (t : Int) (xs : List UInt64) : List UInt64 := (uptoS c.p.regs c.p.l (c.beg t xs) (-1)).take c.x.toNat
noncomputable def ChD.loss (c : ChD) (xs : List UInt64) : UInt64 := (uptoS c.q.regs c.q.l (xs ++ c.th) (-1)).getD 0 0
noncomputable def ChD.iter (c : ChD) (xs : List UInt64) : Nat → List UInt64
  | 0 => xs
  | t + 1 => c.step (t : Int) (c.iter xs t)
section
variable {c : ChD} (hc : c.Ok)
include hc
theorem ChD.step_run {t : Int} {xs : List UInt64} (hx : (xs.length : Int) = c.x) : dimsS c.p.regs c.p.l (c.beg t xs).length = 0 ∧ (uptoS c.p.regs c.p.l (c.beg t xs) (-1)).length = c.p.regs.toNat := by
  obtain ⟨f, hf, g⟩ := hc.hp
  have h1 := hc.r1
  have h2 := hc.x1
  have hl : ((c.beg t xs).length : Int) ≤ c.p.regs := by unfold ChD.beg; simp; omega
  rw [hf]
  refine ⟨dims_of_good g hl, ?_⟩
  rw [uptoS_good g hl, runR_length, startR_length _ _ (by omega)]
theorem ChD.step_length {t : Int} {xs : List UInt64} (hx : (xs.length : Int) = c.x) : ((c.step t xs).length : Int) = c.x := by
  have h1 := hc.r1
  have h2 := hc.x1
  unfold ChD.step
  rw [List.length_take, (c.step_run hc hx).2]
  omega
theorem ChD.iter_length {xs : List UInt64} (hx : (xs.length : Int) = c.x) : ∀ t, ((c.iter xs t).length : Int) = c.x
  | 0 => hx
  | t + 1 => c.step_length hc (ChD.iter_length hx t)
end
end Go.Proofs.YtcamcnahkdiefaaGreat

/- Chapter 23: lists of words, one behind the other: slices.Concat, and the document's Joined. -/
namespace Go.Proofs.YtcamcnahkdiefaaGreat
set_option linter.unusedVariables false
set_option linter.unusedSimpArgs false
open Go.RowKit Go.Lib
theorem Own.takeN {α : Type} [Flat α] {w : World} {B : Nat} {E : TypeId} {a : Option Addr} {c : Nat} : ∀ (d : Nat) {l : List α} (h : Own w B E a c l) (k : Nat), l.length ≤ k + d → Own w B E a c (l.take k)
  | 0, l, h, k, hd => by rw [List.take_of_length_le (by omega)]; exact h
  | d + 1, l, h, k, hd => by
    by_cases hk : l.length ≤ k
    · rw [List.take_of_length_le hk]; exact h
    · have hl : l ≠ [] := by rintro rfl; simp at hk
      have h2 := Own.takeN d (h.pop hl) k (by rw [List.length_dropLast]; omega)
      rwa [List.dropLast_eq_take, List.take_take, Nat.min_eq_left (by omega)] at h2
set_option maxHeartbeats 1600000 in
theorem Grow_calls (n : Nat) (hn : n ≤ 1000000) (w : World) :
    Calls Tryz.prog 128 #[.slice none 0 0, .int .i64 n] w fun e w' => ∃ a' c', e = .returned (.slice a' 0 c') ∧ Own w' w.heap.size 50 a' c' ([] : List UInt64) ∧ Below w.heap.size w w' := by
  rcases Nat.eq_zero_or_pos n with rfl | h0
  · go_enter Tryz.func128, Tryz.ntmps128
    go_wp2
    go_ret
    exact ⟨none, 0, rfl, Own.none _ _ _, Below.refl _ _⟩
  · have h1 : ¬ ((n : Int) < 0) := by omega
    have h2 : (n : Int) > 0 := by omega
    obtain ⟨i, hi, hz, hsz, hby⟩ := tyU0.info
    have hcap := grownCap_le_maxLen w n 0 50 (by simp only [maxLen]; omega)
    have hge := grownCap_ge w n 0 50
    have hrun := fun ty => run_append_nil_zeros w 46 3 ty 50 i (.int .u64 0) .i64 .i64 Tryz.underlying46 Tryz.underlying3 hi hz n h0 (by omega) (by omega) (Nat.le_trans (Nat.mul_le_mul hn hby) (by decide))
    have HRUN := hide hrun
    obtain ⟨C, hC⟩ : ∃ C, grownCap w n 0 50 = C := ⟨_, rfl⟩
    rw [hC] at hcap hge hrun
    have HR := hide hrun
    clear HRUN hrun
    have hown : Own (w.drew.alloc (.cells (Builtin.zeroCells (Value.int .u64 0).cells n ++ Builtin.zeroCells (Value.int .u64 0).cells (C - n)) 50)) w.heap.size 50 (some ⟨w.heap.size, 0, none⟩) C ([] : List UInt64) :=
      World.ownsRow_made w.drew _ C (Nat.le_refl _) hcap (by rw [Array.size_append, size_zeroCells, size_zeroCells]; show n * 1 + (C - n) * 1 = C * 1; omega)
    have hbel : Below w.heap.size w (w.drew.alloc (.cells (Builtin.zeroCells (Value.int .u64 0).cells n ++ Builtin.zeroCells (Value.int .u64 0).cells (C - n)) 50)) := (Below.drew (Below.refl _ _)).alloc (Nat.le_refl _) _
    have HO := hide hown
    have HB := hide hbel
    clear hown hbel hC
    go_enter Tryz.func128, Tryz.ntmps128
    go_wp2_with (at_builtin; refine Lib.wpList_append_run _ rfl _ _ _ _ rfl _ _ rfl rfl _ _ (HR.out _) ?_)
    go_ret
    exact ⟨_, C, rfl, HO.out, HB.out⟩
theorem flat_take {ls : List (List UInt64)} {k : Nat} {l : List UInt64} (h : ls[k]? = some l) : (ls.take (k + 1)).flatten = (ls.take k).flatten ++ l := by
  rw [List.take_add_one, h]; simp
theorem flat_le (ls : List (List UInt64)) (k : Nat) : (ls.take k).flatten.length ≤ ls.flatten.length := by
  conv => rhs; rw [← List.take_append_drop k ls]
  rw [List.flatten_append, List.length_append]; omega
set_option maxHeartbeats 1600000 in
theorem Concat_calls (a : Option Addr) (c n : Nat) (ls : List (List UInt64)) (w : World) (hn : n = ls.length) (h : AtL w a ls) (hl : n ≤ 1000000) (hf : ls.flatten.length ≤ 1000000) (N : Nat) (hN : N = ls.flatten.length) :
    Calls Tryz.prog 82 #[.slice a n c] w fun e w' => ∃ a' c', e = .returned (.slice a' N c') ∧ Own w' w.heap.size 50 a' c' ls.flatten ∧ Below w.heap.size w w' := by
  have HN := hide hn
  have HF := hide hf
  have HNN := hide hN
  have HL := hide (flat_le ls)
  clear hn hf hN
  go_enter Tryz.func82, Tryz.ntmps82
  go_wp2
  go_loopw [3, 5, 11] (fun sz _ iv wr => ∃ k m : Nat, iv = .int .i64 k ∧ k ≤ n ∧ sz = .int .i64 m ∧ Hid (m = (ls.take k).flatten.length) ∧ wr = w) (fun _ _ iv _ => n - (intOf iv).toNat)
  case atStart => exact ⟨0, 0, rfl, by omega, rfl, by show _ = _; simp, rfl⟩
  case round =>
    obtain ⟨k, m, rfl, hk, rfl, hm, rfl⟩ := hrel
    by_cases hkn : k < n
    · obtain ⟨b, off, ha, hc, l, rfl, hx, x0, hcap, hat⟩ := h.get (Below.refl _ _) (by rw [← HN.out]; exact hkn)
      have HM := hide (show m + l.length = (ls.take (k + 1)).flatten.length by rw [flat_take hx.out, List.length_append, hm.out])
      have hle : m + l.length ≤ 1000000 := by rw [HM.out]; exact Nat.le_trans (HL.out _) HF.out
      go_wp2
      go_roundw
      case rel => exact ⟨k + 1, m + l.length, by go_num, by omega, by go_num, HM.out, trivial⟩
      case measure => simp [intOf]; omega
    · obtain rfl : n = k := by omega
      have hmN : N = m := by rw [hm.out, HN.out, List.take_length, HNN.out]
      have hNl : N ≤ 1000000 := by rw [HNN.out]; exact HF.out
      subst hmN
      clear hm
      go_wp2_with (go_at_call 128; go_must ((with_reducible refine (Grow_calls N hNl _).mono ?_); rintro e w1 ⟨a1, c1, rfl, hown1, hb1⟩))
      obtain ⟨w, rfl⟩ : ∃ w0 : World, w0 = wr := ⟨_, rfl⟩
      go_loopw [6, 8, 27] (fun ov _ iv wr => ∃ (k m : Nat) (ao : Option Addr) (co : Nat), iv = .int .i64 k ∧ k ≤ n ∧ ov = .slice ao m co ∧ Hid (m = (ls.take k).flatten.length) ∧ Own wr w.heap.size 50 ao co (ls.take k).flatten ∧ Below w.heap.size w wr) (fun _ _ iv _ => n - (intOf iv).toNat)
      case atStart => exact ⟨0, 0, _, _, rfl, by omega, rfl, by show _ = _; simp, by simpa using hown1, hb1⟩
      case round =>
        obtain ⟨k, m, ao, co, rfl, hk, rfl, hm, hown, hbr⟩ := hrel
        have hzr := hbr.size
        by_cases hkn : k < n
        · obtain ⟨b, off, ha, hc, l, rfl, hx, x0, hcap, hat⟩ := h.get hbr (by rw [← HN.out]; exact hkn)
          have HT := hide (flat_take hx.out)
          have HM := hide (show m + l.length = (ls.take (k + 1)).flatten.length by rw [flat_take hx.out, List.length_append, hm.out])
          have hle : m + l.length ≤ 1000000 := by rw [HM.out]; exact Nat.le_trans (HL.out _) HF.out
          have hatr := hat.belowN hbr
          go_wp2_with (at_builtin; refine wpList_pushAll tyU hown hatr rfl rfl rfl rfl hm.out rfl hzr (by omega) (by omega) ?_; intro a3 c3 w3 hown3 hg3 _)
          go_roundw
          case rel => exact ⟨k + 1, m + l.length, a3, c3, by go_num, by omega, rfl, HM.out, by rw [HT.out]; exact hown3, below_push hbr hown hg3 hzr⟩
          case measure => simp [intOf]; omega
        · obtain rfl : n = k := by omega
          have hmN : m = N := by rw [hm.out, HN.out, List.take_length, HNN.out]
          rw [HN.out, List.take_length] at hown
          subst hmN
          clear hm
          go_wp2
          go_ret
          exact ⟨ao, co, rfl, hown, hbr⟩
end Go.Proofs.YtcamcnahkdiefaaGreat

/- Chapter 23: a chain in memory; New. -/
namespace Go.Proofs.YtcamcnahkdiefaaGreat
set_option linter.unusedVariables false
set_option linter.unusedSimpArgs false
open Go.RowKit
def ChAt (w : World) (g : Nat) (c : ChD) : Prop :=
  ∃ (a b ta : Option Addr) (ca cb tc : Nat), Blk w g 149 #[.int .i64 c.p.regs, .slice a c.p.l.length ca, .int .i64 c.q.regs, .slice b c.q.l.length cb, .int .i64 c.x, .slice ta c.th.length tc] ∧ At w a c.p.l ∧ At w b c.q.l ∧ At w ta c.th ∧ c.th.length ≤ tc
theorem ChAt.belowN {w w' : World} {g : Nat} {c : ChD} (h : ChAt w g c) (hb : Below w.heap.size w w') : ChAt w' g c := by
  obtain ⟨a, b, ta, ca, cb, tc, h0, h1, h2, h3, h4⟩ := h
  exact ⟨a, b, ta, ca, cb, tc, h0.belowN hb, h1.belowN hb, h2.belowN hb, h3.belowN hb, h4⟩
theorem ChAt.lt {w : World} {g : Nat} {c : ChD} (h : ChAt w g c) : g < w.heap.size := by
  obtain ⟨a, b, ta, ca, cb, tc, h0, _⟩ := h
  exact h0.lt
theorem May_calls (g : Nat) (c : ChD) (t : Int) (a : Option Addr) (n k : Nat) (w : World) (h : ChAt w g c) (hn : n ≤ 1000000) (E : Int) (hE : c.may t n = E) :
    Calls Tryz.prog 80 #[.pointer (some ⟨g, 0, none⟩), .int .i64 t, .slice a n k] w fun e w' => e = .returned (.int .i64 E) ∧ w = w' := by
  obtain ⟨a1, b1, ta, ca, cb, tc, h0, h1, h2, h3, h4⟩ := h
  have x0 := h0.cell_ (i := 4) (v := .int .i64 c.x) rfl
  unfold ChD.may at hE
  by_cases ht : t < 0 ∨ 65536 ≤ t
  · rw [if_pos ht] at hE
    subst hE
    rcases ht with ht | ht
    · go_enter Tryz.func80, Tryz.ntmps80
      go_wp2
      go_ret
      exact ⟨rfl, rfl⟩
    · have hq : ¬ (t < 0) := by omega
      go_enter Tryz.func80, Tryz.ntmps80
      go_wp2
      go_ret
      exact ⟨rfl, rfl⟩
  · rw [if_neg ht] at hE
    have ht1 : ¬ (t < 0) := by omega
    have ht2 : ¬ (65536 ≤ t) := by omega
    have ht3 : ¬ (t ≥ 65536) := by omega
    by_cases hx : (n : Int) = c.x
    · rw [if_neg (by simpa using hx)] at hE
      subst hE
      have e1 : ((n : Int) != c.x) = false := by simpa using hx
      have e2 : ((n : Int) == c.x) = true := by simpa using hx
      clear hx
      go_enter Tryz.func80, Tryz.ntmps80
      go_wp2
      go_ret
      exact ⟨rfl, rfl⟩
    · rw [if_pos hx] at hE
      subst hE
      have e1 : ((n : Int) != c.x) = true := by simpa using hx
      have e2 : ((n : Int) == c.x) = false := by simpa using hx
      clear hx
      go_enter Tryz.func80, Tryz.ntmps80
      go_wp2
      go_ret
      exact ⟨rfl, rfl⟩
theorem results_row_one {P : Program} {fn : Func} {p : Tmp} {ty : TypeId} (h : fn.results = #[.cell p ty]) (tmps : Array Value) (w : World) (g : Nat) (t : TypeId) (cs : Array Value) (fr : Nat × Nat) (d : TypeDesc)
    (hp : tmps.getD p undef = .pointer (some ⟨g, 0, none⟩)) (hg : w.heap[g]? = some (.cells cs t fr)) (hu : P.underlying ty = some d) (hd : (match d with | .struct _ | .array _ _ => true | _ => false) = true) (hi : (P.info? ty).map (·.size) = some cs.size) :
    (results fn tmps).run P w = .ok (.agg cs) w := by
  have hp' : tmps[p]?.getD undef = .pointer (some ⟨g, 0, none⟩) := by simpa using hp
  simp only [results, h]
  simp [Sem.run_bind, hp', asAddr, run_loadVar_row w g t ty cs fr d hg hu hd hi, Result.andThen]
set_option maxHeartbeats 1600000 in
theorem New1_calls (p : PrD) (w : World) (h : At w p.a p.l) (hl : p.l.length ≤ 1000000) :
    Calls Tryz.prog 77 #[.agg #[.int .i64 p.regs, .slice p.a p.l.length p.c]] w fun e w' => ∃ a' c', e = .returned (.agg #[.int .i64 p.regs, .slice a' p.l.length c']) ∧ Own w' w.heap.size 89 a' c' p.l ∧ Below w.heap.size w w' := by
  have hb0 := (below_new w (.cells #[.int .i64 p.regs, .slice p.a p.l.length p.c] 24)).alloc (by simp) (.cells #[.int .i64 0, .slice none 0 0] 24)
  have hX := (Blk.new w 24 #[.int .i64 p.regs, .slice p.a p.l.length p.c]).alloc (.cells #[.int .i64 0, .slice none 0 0] 24)
  have hF := Blk.new (w.alloc (.cells #[.int .i64 p.regs, .slice p.a p.l.length p.c] 24)) 24 #[.int .i64 0, .slice none 0 0]
  simp only [World.size_alloc] at hF
  have h1 := h.belowN hb0
  go_enter Tryz.func77, Tryz.ntmps77
  go_wp2
  obtain ⟨w0, hw0⟩ : ∃ w0, w0 = (w.alloc (.cells #[.int .i64 p.regs, .slice p.a p.l.length p.c] 24)).alloc (.cells #[.int .i64 0, .slice none 0 0] 24) := ⟨_, rfl⟩
  rw [← hw0] at hb0 hX hF h1 ⊢
  have hz0 : w0.heap.size = w.heap.size + 2 := by rw [hw0]; simp
  clear hw0
  obtain ⟨p0, p1, p2, p3⟩ := hX.c2
  obtain ⟨q0, q1, q2, q3⟩ := hF.c2
  have hd0 := Below.drew (Below.refl w0.heap.size w0)
  have h2 := h1.belowN hd0
  go_region_held3 (fun w' => w'.cell? ⟨w.heap.size, 0, none⟩ = some (.int .i64 p.regs) ∧ w'.cell? ⟨w.heap.size, 1, none⟩ = some (.slice p.a p.l.length p.c)) (go_keep)
    ((go_at_call 78; go_must (refine (CloneO_calls _ _ _ p.l _ rfl h2 (by omega)).mono ?_; rintro e w1 ⟨a1, c1, rfl, hown1, hb1⟩; have hB1 := hd0.trans (hb1.mono hd0.size); obtain ⟨r0, r1, r2, r3⟩ := (hX.belowN hB1).c2; have hF1 := hF.belowN hB1; obtain ⟨s0, s1, s2, s3⟩ := hF1.c2)))
  have hF2 := ((hF1.set_ 0 (.int .i64 p.regs)).set_ 1 (.slice a1 p.l.length c1))
  try go_wp2
  try simp only [Exit.then, Exit.inBlock]
  have hB9 := hb0.trans (hB1.mono hb0.size)
  have hz9 := hB1.size
  refine bodyPost_ret (results_row_one rfl _ _ (w.heap.size + 1) _ #[.int .i64 p.regs, .slice a1 p.l.length c1] (0, 0) _ rfl hF2 Tryz.underlying24 rfl (by kernel_rfl)) rfl ⟨a1, c1, rfl, ?_, ?_⟩
  · have h9 : w.heap.size + 1 < w0.drew.heap.size := by show w.heap.size + 1 < w0.heap.size; omega
    exact ((hown1.setCell (p := ⟨w.heap.size + 1, 0, none⟩) h9 _).setCell (p := ⟨w.heap.size + 1, 1, none⟩) h9 _).mono (by show w.heap.size ≤ w0.heap.size; omega)
  · exact (hB9.setCell (p := ⟨w.heap.size + 1, 0, none⟩) (by simp) _).setCell (p := ⟨w.heap.size + 1, 1, none⟩) (by simp) _
theorem NewBad_calls (c : ChD) (a : Option Addr) (k : Nat) (w : World) (h : At w c.p.a c.p.l) (hl : c.p.l.length ≤ 1000000) (h' : At w c.q.a c.q.l) (hl' : c.q.l.length ≤ 1000000) (hx : -9223372036854775808 ≤ c.x ∧ c.x ≤ 9223372036854775807) (hn : c.th.length ≤ 1000000) (E : Int) (hE : c.bad = E) (h0 : E ≠ 0) :
    Calls Tryz.prog 36 #[.agg #[.int .i64 c.p.regs, .slice c.p.a c.p.l.length c.p.c], .agg #[.int .i64 c.q.regs, .slice c.q.a c.q.l.length c.q.c], .int .i64 c.x, .slice a c.th.length k] w fun e w' => e = .returned (.tuple #[.pointer none, .int .i64 E]) ∧ Below w.heap.size w w' := by
  have hb0 : Below w.heap.size w ((w.alloc (.cells #[.int .i64 c.p.regs, .slice c.p.a c.p.l.length c.p.c] 24)).alloc (.cells #[.int .i64 c.q.regs, .slice c.q.a c.q.l.length c.q.c] 24)) := ((below_new _ _).alloc (by simp) _)
  have hX := (Blk.new w 24 #[.int .i64 c.p.regs, .slice c.p.a c.p.l.length c.p.c]).alloc (.cells #[.int .i64 c.q.regs, .slice c.q.a c.q.l.length c.q.c] 24)
  have hY := Blk.new (w.alloc (.cells #[.int .i64 c.p.regs, .slice c.p.a c.p.l.length c.p.c] 24)) 24 #[.int .i64 c.q.regs, .slice c.q.a c.q.l.length c.q.c]
  simp only [World.size_alloc] at hY
  have h1 := h.belowN hb0
  have h2 := h'.belowN hb0
  obtain ⟨P, hP⟩ : ∃ P, pairS c.p c.q = P := ⟨_, rfl⟩
  unfold ChD.bad at hE
  rw [hP] at hE
  have HP := hide hP
  by_cases hP0 : P = 0
  · subst hP0
    rw [if_neg (by simp)] at hE
    have e1 : (E == 0) = false := by simpa using h0
    have e2 : (E != 0) = true := by simpa using h0
    have HD := hide (fun w => hE ▸ Dims_calls c.p c.q c.x (c.th.length : Int) hx (by omega) w)
    clear hE hP h0
    go_enter Tryz.func36, Tryz.ntmps36
    go_wp2_with (first
      | (go_at_call 75; go_must ((with_reducible refine (Pair_calls c.p c.q _ h1 hl h2 hl' 0 HP.out).mono ?_); rintro e w1 ⟨rfl, hb1⟩; have hB1 := hb0.trans (hb1.mono hb0.size); have hz1 := hB1.size; obtain ⟨p0, p1, p2, p3⟩ := (hX.belowN hb1).c2; obtain ⟨q0, q1, q2, q3⟩ := (hY.belowN hb1).c2))
      | (go_at_call 76; go_must ((with_reducible refine (HD.out _).mono ?_); rintro e w2 ⟨rfl, hb2⟩)))
    go_ret2
    exact ⟨rfl, hB1.trans (hb2.mono hz1)⟩
  · rw [if_pos hP0] at hE
    subst hE
    have e1 : (P == 0) = false := by simpa using hP0
    have e2 : (P != 0) = true := by simpa using hP0
    clear hP hP0 h0
    go_enter Tryz.func36, Tryz.ntmps36
    go_wp2_with (go_at_call 75; go_must ((with_reducible refine (Pair_calls c.p c.q _ h1 hl h2 hl' P HP.out).mono ?_); rintro e w1 ⟨rfl, hb1⟩; have hB1 := hb0.trans (hb1.mono hb0.size)))
    go_ret2
    exact ⟨rfl, hB1⟩
set_option maxRecDepth 100000 in
set_option maxHeartbeats 3200000 in
theorem NewGood_calls (c : ChD) (a : Option Addr) (k : Nat) (w : World) (h : At w c.p.a c.p.l) (hl : c.p.l.length ≤ 1000000) (h' : At w c.q.a c.q.l) (hl' : c.q.l.length ≤ 1000000) (h3 : At w a c.th) (hx : -9223372036854775808 ≤ c.x ∧ c.x ≤ 9223372036854775807) (hn : c.th.length ≤ 1000000) (hE : c.bad = 0) :
    Calls Tryz.prog 36 #[.agg #[.int .i64 c.p.regs, .slice c.p.a c.p.l.length c.p.c], .agg #[.int .i64 c.q.regs, .slice c.q.a c.q.l.length c.q.c], .int .i64 c.x, .slice a c.th.length k] w fun e w' => ∃ g, e = .returned (.tuple #[.pointer (some ⟨g, 0, none⟩), .int .i64 0]) ∧ ChAt w' g c ∧ w.heap.size ≤ g ∧ Below w.heap.size w w' := by
  have hb0 : Below w.heap.size w ((w.alloc (.cells #[.int .i64 c.p.regs, .slice c.p.a c.p.l.length c.p.c] 24)).alloc (.cells #[.int .i64 c.q.regs, .slice c.q.a c.q.l.length c.q.c] 24)) := ((below_new _ _).alloc (by simp) _)
  have hX := (Blk.new w 24 #[.int .i64 c.p.regs, .slice c.p.a c.p.l.length c.p.c]).alloc (.cells #[.int .i64 c.q.regs, .slice c.q.a c.q.l.length c.q.c] 24)
  have hY := Blk.new (w.alloc (.cells #[.int .i64 c.p.regs, .slice c.p.a c.p.l.length c.p.c] 24)) 24 #[.int .i64 c.q.regs, .slice c.q.a c.q.l.length c.q.c]
  simp only [World.size_alloc] at hY
  have h1 := h.belowN hb0
  have h2 := h'.belowN hb0
  have h4 := h3.belowN hb0
  have hP : pairS c.p c.q = 0 := by
    refine Classical.byContradiction fun hn => ?_
    unfold ChD.bad at hE
    rw [if_pos hn] at hE
    exact hn hE
  unfold ChD.bad at hE
  rw [if_neg (by simpa using hP)] at hE
  have HP := hide hP
  have HD := hide (fun w => hE ▸ Dims_calls c.p c.q c.x (c.th.length : Int) hx (by omega) w)
  clear hE hP
  go_enter Tryz.func36, Tryz.ntmps36
  go_wp2_with (first
    | (go_at_call 75; go_must ((with_reducible refine (Pair_calls c.p c.q _ h1 hl h2 hl' 0 HP.out).mono ?_); rintro e w1 ⟨rfl, hb1⟩; have hB1 := hb0.trans (hb1.mono hb0.size); have hz1 := hB1.size; obtain ⟨p0, p1, p2, p3⟩ := (hX.belowN hb1).c2; obtain ⟨q0, q1, q2, q3⟩ := (hY.belowN hb1).c2))
    | (go_at_call 76; go_must ((with_reducible refine (HD.out _).mono ?_); rintro e w2 ⟨rfl, hb2⟩; have hb3 := hb1.trans (hb2.mono hb1.size); obtain ⟨r0, r1, r2, r3⟩ := (hX.belowN hb3).c2; obtain ⟨s0, s1, s2, s3⟩ := (hY.belowN hb3).c2)))
  have hX2 := hX.belowN hb3
  have hY2 := hY.belowN hb3
  have hP2 := h1.belowN hb3
  have hQ2 := h2.belowN hb3
  have hT2 := h4.belowN hb3
  have hB3 := hb0.trans (hb3.mono hb0.size)
  have hz3 := hB3.size
  have hB := Below.drew (Below.refl w2.heap.size w2)
  clear hX hY h1 h2 h4 h h' h3 hb0 hb1 hb2 hb3 hB1 hz1 p0 p1 p2 p3 q0 q1 q2 q3
  go_region_held3 (fun w' => w'.cell? ⟨w.heap.size, 0, none⟩ = some (.int .i64 c.p.regs) ∧ w'.cell? ⟨w.heap.size, 1, none⟩ = some (.slice c.p.a c.p.l.length c.p.c) ∧ w'.cell? ⟨w.heap.size + 1, 0, none⟩ = some (.int .i64 c.q.regs) ∧ w'.cell? ⟨w.heap.size + 1, 1, none⟩ = some (.slice c.q.a c.q.l.length c.q.c)) (go_keep)
    (first
      | (go_at_call 77; refine (New1_calls c.p _ (hP2.belowN hB) hl).mono ?_; rintro e wx ⟨aP, cP, rfl, hoP, hb⟩; have hB := hB.trans (hb.mono hB.size); (try have hoQ := hoQ.belowN hb); (try have hoT := hoT.belowN hb); obtain ⟨x0, x1, x2, x3⟩ := (hX2.belowN hB).c2; obtain ⟨y0, y1, y2, y3⟩ := (hY2.belowN hB).c2)
      | (go_at_call 77; refine (New1_calls c.q _ (hQ2.belowN hB) hl').mono ?_; rintro e wx ⟨aQ, cQ, rfl, hoQ, hb⟩; have hB := hB.trans (hb.mono hB.size); (try have hoP := hoP.belowN hb); (try have hoT := hoT.belowN hb); obtain ⟨x0, x1, x2, x3⟩ := (hX2.belowN hB).c2; obtain ⟨y0, y1, y2, y3⟩ := (hY2.belowN hB).c2)
      | (go_at_call 79; refine (CloneU_calls _ _ _ c.th _ rfl (hT2.belowN hB) (by omega)).mono ?_; rintro e wx ⟨aT, cT, rfl, hoT, hb⟩; have hB := hB.trans (hb.mono hB.size); (try have hoP := hoP.belowN hb); (try have hoQ := hoQ.belowN hb); obtain ⟨x0, x1, x2, x3⟩ := (hX2.belowN hB).c2; obtain ⟨y0, y1, y2, y3⟩ := (hY2.belowN hB).c2))
  have hN := below_new wx (.cells #[.int .i64 c.p.regs, .slice aP c.p.l.length cP, .int .i64 c.q.regs, .slice aQ c.q.l.length cQ, .int .i64 c.x, .slice aT c.th.length cT] 149)
  have hBx := hB3.trans (hB.mono hz3)
  have hzx := hBx.size
  go_wp2
  go_ret2
  exact ⟨wx.heap.size, rfl, ⟨aP, aQ, aT, cP, cQ, cT, Blk.new wx _ _, hoP.at_.belowN hN, hoQ.at_.belowN hN, hoT.at_.belowN hN, hoT.cap.1⟩, hzx, hBx.trans (hN.mono hzx)⟩
end Go.Proofs.YtcamcnahkdiefaaGreat

/- Chapter 23: a step and a loss. -/
namespace Go.Proofs.YtcamcnahkdiefaaGreat
set_option linter.unusedVariables false
set_option linter.unusedSimpArgs false
open Go.RowKit
theorem AtL.ofBlk {w : World} {g : Nat} {T : TypeId} {cs : Array Value} (hs : List Hd) (ls : List (List UInt64)) (h : Blk w g T cs) (hcs : cs.toList = hs.flatMap Flat.enc) (hl : hs.length = ls.length)
    (hh : ∀ (i : Nat) (h : Hd) (l : List UInt64), hs[i]? = some h → ls[i]? = some l → h.n = l.length ∧ l.length ≤ h.c ∧ At w h.a l) : AtL w (some ⟨g, 0, none⟩) ls := ⟨hs, At.ofBlk h hs hcs, hl, hh⟩
def Fresh (B : Nat) (w : World) (a : Option Addr) : Prop := ∀ g, a.map (·.block) = some g → B ≤ g ∧ g < w.heap.size
set_option maxRecDepth 100000 in
set_option maxHeartbeats 1600000 in
theorem StepGood_calls (g : Nat) (c : ChD) (hc : c.Ok) (v : UInt64) (a : Option Addr) (n k : Nat) (xs : List UInt64) (w : World) (h : ChAt w g c) (hat : At w a xs) (hn : n = xs.length) (hnk : n ≤ k) (hx : (n : Int) = c.x) (hv : v.toNat < 65536) (R : List UInt64) (hR : c.step (v.toNat : Int) xs = R) :
    Calls Tryz.prog 39 #[.pointer (some ⟨g, 0, none⟩), .int .i64 (v.toNat : Int), .slice a n k] w fun e w' => ∃ a' k', e = .returned (.tuple #[.slice a' n k', .int .i64 0]) ∧ n ≤ k' ∧ At w' a' R ∧ Fresh w.heap.size w' a' ∧ Below w.heap.size w w' := by
  have hmay : c.may (v.toNat : Int) n = 0 := by unfold ChD.may; rw [if_neg (by omega), if_neg (by simpa using hx)]
  have hx2 := hc.x2
  have hx1 := hc.x1
  have ht2 := hc.t2
  have hr1 := hc.r1
  have HM := hide (May_calls g c (v.toNat : Int) a n k w h (by omega) 0 hmay)
  obtain ⟨d1, d2⟩ := c.step_run hc (t := (v.toNat : Int)) (xs := xs) (by rw [← hn]; exact hx)
  obtain ⟨X, hX⟩ : ∃ X, uptoS c.p.regs c.p.l (c.beg (v.toNat : Int) xs) (-1) = X := ⟨_, rfl⟩
  have hb : c.beg (v.toNat : Int) xs = [xs, c.th, [v]].flatten := by
    unfold ChD.beg
    rw [Int.toNat_natCast, UInt64.ofNat_toNat]
    simp
  rw [hX] at d2
  rw [hb] at d1 hX
  unfold ChD.step at hR
  rw [hb, hX] at hR
  have hXl : n ≤ X.length := by omega
  have hxn : c.x.toNat = n := by omega
  rw [hxn] at hR
  obtain ⟨pa, qa, ta, pc, qc, tc, h0, h1, h2, h3, h4⟩ := h
  have hpl : c.p.l.length ≤ 1000000 := by
    obtain ⟨f, hf, g⟩ := hc.hp
    rw [hf]; have := g.len; unfold Fo.size at this; omega
  obtain ⟨pl, hpln⟩ : ∃ pl, c.p.l.length = pl := ⟨_, rfl⟩
  obtain ⟨tn, htn⟩ : ∃ tn, c.th.length = tn := ⟨_, rfl⟩
  have hwr : IntKind.u64.wrap (v.toNat : Int) = (v.toNat : Int) := IntWalk.u64_in _ (by omega)
  have hpl2 : pl ≤ 1000000 := by rw [← hpln]; exact hpl
  have htn64 : tn ≤ 64 := by rw [← htn]; exact ht2
  have hn64 : n ≤ 64 := by omega
  have hfl : ([xs, c.th, [v]].flatten : List UInt64).length = n + tn + 1 := by simp; omega
  obtain ⟨L, hL⟩ : ∃ L, L = ([xs, c.th, [v]].flatten : List UInt64) := ⟨_, rfl⟩
  rw [← hL] at d1 hX hfl
  have HL := hide hL
  have HX := hide hX
  have HD := hide d1
  have HPL := hide hpln.symm
  have HFL := hide hfl.symm
  have HR := hide hR
  have hN1 : Below w.heap.size w (w.alloc (.cells #[.int .u64 (v.toNat : Int)] 50)) := (Below.refl _ _).alloc (Nat.le_refl _) _
  have hN : Below w.heap.size w ((w.alloc (.cells #[.int .u64 (v.toNat : Int)] 50)).alloc (.cells #[.slice a n k, .slice ta tn tc, .slice (some ⟨w.heap.size, 0, none⟩) 1 1] 46)).drew := (hN1.alloc (by simp) _).drew
  have hBk := Blk.new (w.alloc (.cells #[.int .u64 (v.toNat : Int)] 50)) 46 #[.slice a n k, .slice ta tn tc, .slice (some ⟨w.heap.size, 0, none⟩) 1 1]
  have hv1 : At ((w.alloc (.cells #[.int .u64 (v.toNat : Int)] 50)).alloc (.cells #[.slice a n k, .slice ta tn tc, .slice (some ⟨w.heap.size, 0, none⟩) 1 1] 46)).drew (some ⟨w.heap.size, 0, none⟩) [v] :=
    At.ofBlk (((Blk.new w 50 #[.int .u64 (v.toNat : Int)]).alloc _).belowN (Below.drew (Below.refl _ _))) [v] rfl
  have hAL : AtL ((w.alloc (.cells #[.int .u64 (v.toNat : Int)] 50)).alloc (.cells #[.slice a n k, .slice ta tn tc, .slice (some ⟨w.heap.size, 0, none⟩) 1 1] 46)).drew (some ⟨w.heap.size + 1, 0, none⟩) [xs, c.th, [v]] := by
    have hBk2 : Blk ((w.alloc (.cells #[.int .u64 (v.toNat : Int)] 50)).alloc (.cells #[.slice a n k, .slice ta tn tc, .slice (some ⟨w.heap.size, 0, none⟩) 1 1] 46)).drew (w.heap.size + 1) 46 #[.slice a n k, .slice ta tn tc, .slice (some ⟨w.heap.size, 0, none⟩) 1 1] := by have := hBk.belowN (Below.drew (Below.refl _ _)); simpa using this
    refine AtL.ofBlk [⟨a, n, k⟩, ⟨ta, tn, tc⟩, ⟨some ⟨w.heap.size, 0, none⟩, 1, 1⟩] _ hBk2 rfl rfl fun i hd l e1 e2 => ?_
    match i, e1, e2 with
    | 0, e1, e2 => simp at e1 e2; subst e1 e2; exact ⟨hn, by show xs.length ≤ k; omega, hat.belowN hN⟩
    | 1, e1, e2 => simp at e1 e2; subst e1 e2; exact ⟨htn.symm, by show c.th.length ≤ tc; omega, h3.belowN hN⟩
    | 2, e1, e2 => simp at e1 e2; subst e1 e2; exact ⟨rfl, by show 1 ≤ 1; omega, hv1⟩
    | j + 3, e1, e2 => simp at e1
  rw [htn, hpln] at h0
  have f0 := h0.cell_ (i := 0) (v := .int .i64 c.p.regs) rfl
  have f1 := h0.cell_ (i := 1) (v := .slice pa pl pc) rfl
  have f4 := h0.cell_ (i := 4) (v := .int .i64 c.x) rfl
  have f5 := h0.cell_ (i := 5) (v := .slice ta tn tc) rfl
  have HX2 := hide (show c.x = (n : Int) from hx.symm)
  rw [← hx] at f4
  have hgl := h0.lt
  clear hn hR hX d1 hb hL hmay hN1 hBk hv1 hpln htn hfl d2
  go_enter Tryz.func39, Tryz.ntmps39
  go_wp2_with (go_at_call 80; go_must ((with_reducible refine (HM.out).mono ?_); rintro e w1 ⟨rfl, rfl⟩))
  go_region_held3 (fun w' => w'.cell? ⟨g, 0, none⟩ = some (.int .i64 c.p.regs) ∧ w'.cell? ⟨g, 1, none⟩ = some (.slice pa pl pc) ∧ w'.cell? ⟨g, 5, none⟩ = some (.slice ta tn tc)) (go_keep)
    (first
      | (go_at_call 82; (try simp only [hwr]); go_must (refine (Concat_calls _ _ 3 [xs, c.th, [v]] _ rfl hAL (by omega) (by rw [← HL.out, ← HFL.out]; omega) (n + tn + 1) (by rw [← HL.out, ← HFL.out])).mono ?_; rw [← HL.out]; rintro e w3 ⟨a3, c3, rfl, hown3, hb3⟩; have hB3 := hN.trans (hb3.mono hN.size); have hz3 := hB3.size; have hg3 := h0.belowN hB3; have m0 := hg3.cell_ (i := 0) (v := .int .i64 c.p.regs) rfl; have m1 := hg3.cell_ (i := 1) (v := .slice pa pl pc) rfl; have m5 := hg3.cell_ (i := 5) (v := .slice ta tn tc) rfl))
      | (go_at_call 32; go_must (refine (RunN c.p.regs pa pc pl c.p.l a3 c3 (n + tn + 1) L w3 X 0 HPL.out HFL.out HX.out HD.out (h1.belowN hB3) hpl2 hown3.at_ (by omega)).mono ?_; rintro e w4 ⟨a4, c4, rfl, hown4, hb4⟩; have hB4 := hB3.trans (hb4.mono hz3); have hz4 := hB4.size; have hg4 := h0.belowN hB4; have l0 := hg4.cell_ (i := 0) (v := .int .i64 c.p.regs) rfl; have l1 := hg4.cell_ (i := 1) (v := .slice pa pl pc) rfl; have l5 := hg4.cell_ (i := 5) (v := .slice ta tn tc) rfl)))
  have l4 : w4.cell? ⟨g, 4, none⟩ = some (.int .i64 (n : Int)) := by rw [hx]; exact hg4.cell_ (i := 4) (v := .int .i64 c.x) rfl
  have hcap := hown4.cap
  have c1' : n ≤ c4 := by omega
  have c2' : X.length ≤ c4 := hcap.1
  have c3' : c4 ≤ 9223372036854775807 := Nat.le_trans hcap.2 (by decide)
  go_wp2
  go_quiet (fail)
  go_wp2
  go_ret2
  have hdr := below_drawn w4 w4.heap.size nq
  have hat4 := (hown4.at_.take n).belowN hdr
  rw [HR.out] at hat4
  exact ⟨a4, n, rfl, Nat.le_refl _, hat4, fun q hq => ⟨Nat.le_trans hz3 (hown4.blk q hq).1, (hown4.blk q hq).2⟩, hB4.trans (hdr.mono hz4)⟩
end Go.Proofs.YtcamcnahkdiefaaGreat

/- Several texts of mine in one file: C23e, C23f, C23g, C23h, C23i, C23j, C23k, C23l, C23m. -/
/- Chapter 23: each: a callee sees all states. -/
namespace Go.Proofs.YtcamcnahkdiefaaGreat
set_option linter.unusedVariables false
set_option linter.unusedSimpArgs false
open Go.RowKit
end Go.Proofs.YtcamcnahkdiefaaGreat

/- Chapter 23: what sees states: a row, the last one; States, Run. -/
namespace Go.Proofs.YtcamcnahkdiefaaGreat
set_option linter.unusedVariables false
set_option linter.unusedSimpArgs false
open Go.RowKit
theorem OwnL.mono {w : World} {B B' : Nat} {E : TypeId} {a : Option Addr} {c : Nat} {hs : List Hd} {ls : List (List UInt64)} (h : OwnL w B E a c hs ls) (hB : B' ≤ B) : OwnL w B' E a c hs ls :=
  ⟨h.1.mono hB, h.2.1, fun i x l hx hl => let ⟨e1, e2, e3, e4⟩ := h.2.2 i x l hx hl; ⟨e1, e2, e3, fun h0 => let ⟨g, g1, g2, g3⟩ := e4 h0; ⟨g, g1, Nat.le_trans hB g2, g3⟩⟩⟩
def JR (p n : Nat) (c : ChD) (xs : List UInt64) (j : Nat) (F : List Nat) (w : World) : Prop :=
  F = [p] ∧ ∃ v, Blk w p 46 #[v] ∧ (1 ≤ j → ∃ b d, v = .slice b n d ∧ n ≤ d ∧ At w b (c.iter xs (j - 1)))
theorem JR.keep {p n : Nat} {c : ChD} {xs : List UInt64} {j : Nat} {F : List Nat} {w w' : World} (h : JR p n c xs j F w) (hb : Below w.heap.size w w') : JR p n c xs j F w' := by
  obtain ⟨rfl, v, h1, h2⟩ := h
  exact ⟨rfl, v, h1.belowN hb, fun hj => let ⟨b, d, e1, e2, e3⟩ := h2 hj; ⟨b, d, e1, e2, e3.belowN hb⟩⟩
theorem JR.lt {p n : Nat} {c : ChD} {xs : List UInt64} {j : Nat} {F : List Nat} {w : World} (h : JR p n c xs j F w) : ∀ b ∈ F, b < w.heap.size := by
  obtain ⟨rfl, v, h1, h2⟩ := h
  intro b hb
  simp at hb
  rw [hb]; exact h1.lt
end Go.Proofs.YtcamcnahkdiefaaGreat

/- Chapters 10, 23: the document's Pair, Dims, New. -/
namespace Go.Proofs.YtcamcnahkdiefaaGreat
set_option linter.unusedVariables false
set_option linter.unusedSimpArgs false
open Go.RowKit
end Go.Proofs.YtcamcnahkdiefaaGreat

/- Chapter 23: the document's steps and losses. -/
namespace Go.Proofs.YtcamcnahkdiefaaGreat
set_option linter.unusedVariables false
set_option linter.unusedSimpArgs false
open Go.RowKit
end Go.Proofs.YtcamcnahkdiefaaGreat

/- Chapter 23: the document's states. -/
namespace Go.Proofs.YtcamcnahkdiefaaGreat
set_option linter.unusedVariables false
set_option linter.unusedSimpArgs false
open Go.RowKit
end Go.Proofs.YtcamcnahkdiefaaGreat

/- Chapter 23: Small, made. -/
namespace Go.Proofs.YtcamcnahkdiefaaGreat
set_option linter.unusedVariables false
set_option linter.unusedSimpArgs false
open Go.RowKit
theorem sizeW_bd (l : List OpD) : 0 ≤ sizeW l ∧ sizeW l ≤ 65536 := by
  cases hw : well l with
  | false => rw [(size_bad hw).2.1]; omega
  | true =>
    obtain ⟨f, hf, rfl⟩ := forest_of_well l hw
    rw [(sizes_flat hf).1]
    split
    · rename_i h; have := h.2; omega
    · omega
def smallC (c : ChD) (most : Int) : Bool := decide (c.p.l.length ≤ 60) && decide (c.q.l.length ≤ 60) && decide (c.th.length ≤ 100) && decide (sizeW c.p.l + sizeW c.q.l ≤ most)
set_option maxHeartbeats 1600000 in
theorem Small23_calls (c : ChD) (ta : Option Addr) (tc : Nat) (most : Int) (B : Bool) (hB : smallC c most = B) (w : World) (h : At w c.p.a c.p.l) (h' : At w c.q.a c.q.l) :
    Calls Tryz.prog 21 #[.agg #[.int .i64 c.p.regs, .slice c.p.a c.p.l.length c.p.c, .int .i64 c.q.regs, .slice c.q.a c.q.l.length c.q.c, .int .i64 c.x, .slice ta c.th.length tc], .int .i64 most] w fun e w' => e = .returned (.bool B) ∧ Below w.heap.size w w' := by
  have hb0 := below_new w (.cells #[.int .i64 c.p.regs, .slice c.p.a c.p.l.length c.p.c, .int .i64 c.q.regs, .slice c.q.a c.q.l.length c.q.c, .int .i64 c.x, .slice ta c.th.length tc] 48)
  have hX := Blk.new w 48 #[.int .i64 c.p.regs, .slice c.p.a c.p.l.length c.p.c, .int .i64 c.q.regs, .slice c.q.a c.q.l.length c.q.c, .int .i64 c.x, .slice ta c.th.length tc]
  have h1 := h.belowN hb0
  have h2 := h'.belowN hb0
  subst hB
  unfold smallC
  by_cases hs : c.p.l.length ≤ 60 ∧ c.q.l.length ≤ 60 ∧ c.th.length ≤ 100
  · obtain ⟨s1, s2, s3⟩ := hs
    have t1 : ¬ ((60 : Int) < (c.p.l.length : Int)) := by omega
    have t2 : ¬ ((60 : Int) < (c.q.l.length : Int)) := by omega
    have t3 : ¬ ((100 : Int) < (c.th.length : Int)) := by omega
    obtain ⟨P, hP⟩ : ∃ P, sizeW c.p.l = P := ⟨_, rfl⟩
    obtain ⟨Q, hQ⟩ : ∃ Q, sizeW c.q.l = Q := ⟨_, rfl⟩
    have b1 := sizeW_bd c.p.l
    have b2 := sizeW_bd c.q.l
    have HP := hide (Writes9_calls c.p.a c.p.c c.p.l _ h1 (by omega))
    have HQ := hide (fun w' (hb : Below (w.alloc (.cells #[.int .i64 c.p.regs, .slice c.p.a c.p.l.length c.p.c, .int .i64 c.q.regs, .slice c.q.a c.q.l.length c.q.c, .int .i64 c.x, .slice ta c.th.length tc] 48)).heap.size (w.alloc (.cells #[.int .i64 c.p.regs, .slice c.p.a c.p.l.length c.p.c, .int .i64 c.q.regs, .slice c.q.a c.q.l.length c.q.c, .int .i64 c.x, .slice ta c.th.length tc] 48)) w') => Writes9_calls c.q.a c.q.c c.q.l w' (h2.belowN hb) (by omega))
    rw [hP] at HP b1
    simp only [hQ] at HQ
    rw [hQ] at b2
    rw [hP, hQ]
    have hsum : IntKind.i64.wrap (P + Q) = P + Q := IntWalk.i64_in _ (by omega)
    have hd : (decide (c.p.l.length ≤ 60) && decide (c.q.l.length ≤ 60) && decide (c.th.length ≤ 100) && decide (P + Q ≤ most)) = decide (P + Q ≤ most) := by simp [s1, s2, s3]
    rw [hd]
    generalize sizeE c.p.l = E1 at *
    generalize sizeE c.q.l = E2 at *
    clear hP hQ hd
    go_enter Tryz.func21, Tryz.ntmps21
    go_wp2_with (go_at_call 51; first
      | ((with_reducible refine (HQ.out _ hb1).mono ?_); rintro e w2 ⟨rfl, hb2⟩)
      | ((with_reducible refine (HP.out).mono ?_); rintro e w1 ⟨rfl, hb1⟩; have hB1 := hb0.trans (hb1.mono hb0.size); have hz1 := hB1.size; obtain ⟨p0, p1, p2, p3, p4, p5, p6, p7, p8, p9, p10, p11⟩ := (hX.belowN hb1).c6))
    go_ret
    exact ⟨rfl, hB1.trans (hb2.mono hz1)⟩
  · have hd : (decide (c.p.l.length ≤ 60) && decide (c.q.l.length ≤ 60) && decide (c.th.length ≤ 100) && decide (sizeW c.p.l + sizeW c.q.l ≤ most)) = false := by
      rw [Bool.eq_false_iff]
      intro h
      simp only [Bool.and_eq_true, decide_eq_true_eq] at h
      exact hs ⟨h.1.1.1, h.1.1.2, h.1.2⟩
    rw [hd]
    clear hd
    by_cases u1 : c.p.l.length ≤ 60
    · by_cases u2 : c.q.l.length ≤ 60
      · have u3 : ¬ (c.th.length ≤ 100) := fun u3 => hs ⟨u1, u2, u3⟩
        clear hs
        have t1 : ¬ ((60 : Int) < (c.p.l.length : Int)) := by omega
        have t2 : ¬ ((60 : Int) < (c.q.l.length : Int)) := by omega
        have t3 : ((100 : Int) < (c.th.length : Int)) := by omega
        go_enter Tryz.func21, Tryz.ntmps21
        go_wp2
        go_ret
        exact ⟨rfl, hb0⟩
      · clear hs
        have t1 : ¬ ((60 : Int) < (c.p.l.length : Int)) := by omega
        have t2 : ((60 : Int) < (c.q.l.length : Int)) := by omega
        go_enter Tryz.func21, Tryz.ntmps21
        go_wp2
        go_ret
        exact ⟨rfl, hb0⟩
    · clear hs
      have t1 : ((60 : Int) < (c.p.l.length : Int)) := by omega
      go_enter Tryz.func21, Tryz.ntmps21
      go_wp2
      go_ret
      exact ⟨rfl, hb0⟩
end Go.Proofs.YtcamcnahkdiefaaGreat

/- Chapter 23: the page's example, plain; Sum. -/
namespace Go.Proofs.YtcamcnahkdiefaaGreat
set_option linter.unusedVariables false
set_option linter.unusedSimpArgs false
open Go.RowKit
theorem firstL_zero (p : PrD) : ∀ ks : List Nat, firstL [p] ks = 0 → ∀ k ∈ ks, errI k p = 0
  | [], _, k, hk => by simp at hk
  | j :: ks, h, k, hk => by
    simp only [firstL, rowE_one] at h
    by_cases h0 : errI j p = 0
    · rw [if_neg (by simpa using h0)] at h
      rcases List.mem_cons.1 hk with rfl | hk
      · exact h0
      · exact firstL_zero p ks h k hk
    · rw [if_pos h0] at h; exact absurd h h0
theorem firstL_both {p q : PrD} : ∀ ks : List Nat, (∀ k ∈ ks, errI k p = 0 ∧ errI k q = 0) → firstL [p, q] ks = 0
  | [], _ => rfl
  | j :: ks, h => by
    obtain ⟨h1, h2⟩ := h j (by simp)
    simp only [firstL, rowE, h1, h2, ne_eq, not_true_eq_false, if_false]
    exact firstL_both ks fun k hk => h k (by simp [hk])
theorem pairS_of {p q : PrD} (hp : checkS p.regs p.l = 0) (hq : checkS q.regs q.l = 0) : pairS p q = 0 :=
  firstL_both _ fun k hk => ⟨firstL_zero p _ ((firstS_one p).trans hp) k hk, firstL_zero q _ ((firstS_one q).trans hq) k hk⟩
end Go.Proofs.YtcamcnahkdiefaaGreat

/- Chapter 23: the page's example. -/
namespace Go.Proofs.YtcamcnahkdiefaaGreat
set_option linter.unusedVariables false
set_option linter.unusedSimpArgs false
open Go.RowKit
end Go.Proofs.YtcamcnahkdiefaaGreat

/- Chapter 23: ChainSteps. -/
namespace Go.Proofs.YtcamcnahkdiefaaGreat
set_option linter.unusedVariables false
set_option linter.unusedSimpArgs false
open Go.RowKit
theorem small_lens {c : ChD} {m : Int} (h : smallC c m = true) : c.p.l.length ≤ 60 ∧ c.q.l.length ≤ 60 ∧ c.th.length ≤ 100 := by
  unfold smallC at h
  simp only [Bool.and_eq_true, decide_eq_true_eq] at h
  exact ⟨h.1.1.1, h.1.1.2, h.1.2⟩
theorem Same23 (a b : Option Addr) (ca cb n : Nat) (l : List UInt64) (w : World) (hn : n = l.length) (h0 : At w a l) (h1 : At w b l) (hl : n ≤ 1000000) :
    Calls Tryz.prog 38 #[.slice a n ca, .slice b n cb] w fun e w' => e = .returned (.bool true) ∧ ∃ q, w' = w.drewN q := by
  subst hn; exact Same5_calls a b ca cb l w h0 h1 (by omega)
end Go.Proofs.YtcamcnahkdiefaaGreat

/- append of so many noughts: append(s, make([]T, n)...), onto a slice of the call's own. -/
namespace Go.Proofs.YtcamcnahkdiefaaGreat
set_option linter.unusedVariables false
set_option linter.unusedSimpArgs false
open Go.RowKit
section
variable {P : Program} (w : World)
theorem run_append_room_z (t tn ty e : TypeId) (i : TypeInfo) (z : Value) (k kn : IntKind) (ht : P.underlying t = some (.slice e)) (htn : P.underlying tn = some (.int kn)) (hi : P.info? e = some i) (hz : i.zero = some z)
    (g sLen sCap : Nat) (cur : Array Value) (hg : w.heap[g]? = some (.cells cur e (0, 0))) (m : Nat) (hs : 0 < i.size) (hl : (Builtin.zeroCells z.cells m).size = m * i.size) (h1 : ∀ u ∈ (Builtin.zeroCells z.cells m).toList, u.oneCell' = true)
    (hroom : sLen + m ≤ sCap) (hfit : sLen * i.size + m * i.size ≤ cur.size) (h63 : (m : Int) ≤ 9223372036854775807) (h48 : m * i.bytes ≤ 281474976710656) :
    (Builtin.append_ #[t, tn] ty #[.slice (some ⟨g, 0, none⟩) sLen sCap, .int k m]).run P w =
      .ok (.slice (some ⟨g, 0, none⟩) (sLen + m) sCap) (w.setRow g (cur.toList.take (sLen * i.size) ++ (Builtin.zeroCells z.cells m).toList ++ cur.toList.drop (sLen * i.size + m * i.size)).toArray) := by
  have hst := run_storeCells_at P g (sLen * i.size) e (Builtin.zeroCells z.cells m).toList 0 cur w hg (by rw [Array.length_toList, hl]; simpa using hfit) h1
  simp only [Nat.add_zero, Array.length_toList, hl] at hst
  have hw : IntKind.i64.wrap (m : Int) = m := by rw [IntKind.wrap_i64]; omega
  have hneg : ¬ ((m : Int) < 0) := by omega
  have h48i : ¬ (281474976710656 < (m : Int) * (i.bytes : Int)) := by
    rw [← Int.natCast_mul]
    omega
  by_cases hm : m = 0
  · subst hm
    have h0 : Builtin.zeroCells z.cells 0 = #[] := by simp [Builtin.zeroCells]
    rw [h0] at hst ⊢
    have hw0 : IntKind.i64.wrap 0 = 0 := by rw [IntKind.wrap_i64]; rfl
    have hr0 : sLen ≤ sCap := by omega
    simp [Builtin.append_, run_underlying ht, run_underlying htn, sizeOf, typeInfo, hi, asInt, asIntOf, hw0, hr0, Addr.add_lit]
    have hst2 : (storeCells ⟨g, sLen * i.size, none⟩ []).run P w = .ok () (w.setRow g cur) := by simpa using hst
    rw [hst2]
    rfl
  · have hns : ¬ (m * i.size = 0) := Nat.mul_ne_zero hm (by omega)
    simp [Builtin.append_, run_underlying ht, run_underlying htn, sizeOf, typeInfo, zeroValue, hi, hz, asInt, asIntOf, hw, hneg, h48i, hns, hm, hroom, Addr.add_lit, hst]
theorem run_append_grow_z (t tn ty e : TypeId) (i : TypeInfo) (z : Value) (k kn : IntKind) (ht : P.underlying t = some (.slice e)) (htn : P.underlying tn = some (.int kn)) (hi : P.info? e = some i) (hz : i.zero = some z)
    (b : Addr) (sLen sCap : Nat) (olds : List Value) (hlo : olds.length = sLen * i.size) (holds : ∀ j v, olds[j]? = some v → w.cell? (b.add j) = some v) (n : Nat) (hs : 0 < i.size)
    (hg : sCap < sLen + n) (hsc : sLen ≤ sCap) (h63 : ((sLen + n : Nat) : Int) ≤ 9223372036854775807) (h48 : n * i.bytes ≤ 281474976710656) (hfit : Builtin.nextslicecap (sLen + n) sCap * i.bytes ≤ 281474976710656) :
    (Builtin.append_ #[t, tn] ty #[.slice (some b) sLen sCap, .int k n]).run P w =
      .ok (.slice (some ⟨w.heap.size, 0, none⟩) (sLen + n) (grownCap w (sLen + n) sCap e))
        (w.drew.alloc (.cells (olds.toArray ++ Builtin.zeroCells z.cells n ++ Builtin.zeroCells z.cells (grownCap w (sLen + n) sCap e - (sLen + n))) e)) := by
  have hn : ¬ (sLen + n ≤ sCap) := by omega
  have h63' : ¬ (9223372036854775807 < ((sLen : Int) + (n : Int))) := by omega
  have h48' : ¬ (281474976710656 < Builtin.nextslicecap (sLen + n) sCap * i.bytes) := by omega
  have hw : IntKind.i64.wrap (n : Int) = n := by rw [IntKind.wrap_i64]; omega
  have hneg : ¬ ((n : Int) < 0) := by omega
  have h48i : ¬ (281474976710656 < (n : Int) * (i.bytes : Int)) := by
    rw [← Int.natCast_mul]
    omega
  have hm : n ≠ 0 := by omega
  have hns : ¬ (n * i.size = 0) := Nat.mul_ne_zero hm (by omega)
  have hfo := run_firstCells_some (P := P) w.drew i.size sLen b sLen sCap olds hlo (by simpa using holds)
  simp [Builtin.append_, run_underlying ht, run_underlying htn, sizeOf, typeInfo, zeroValue, hi, hz, asInt, asIntOf, hw, hneg, h48i, hm, hns, hn, h63', h48', Question.forced, hfo, newRow, grownCap]
  try (congr 2; apply Array.ext'; simp [List.append_assoc])
end
section
variable {P : Program} {α : Type} [Flat α]
theorem zeroCells_flat {z : Value} {z0 : α} (h : z.cells.toList = Flat.enc z0) (n : Nat) : (Builtin.zeroCells z.cells n).toList = (List.replicate n z0).flatMap Flat.enc := by
  have hs : z.cells.size = Flat.n α := by rw [← Array.length_toList, h, Flat.len]
  apply List.ext_getElem?
  intro j
  have hp : 0 < Flat.n α := Flat.pos
  have hsz : (Builtin.zeroCells z.cells n).size = n * Flat.n α := by rw [size_zeroCells, hs]
  by_cases hj : j < n * Flat.n α
  · have hd : j / Flat.n α < n := (Nat.div_lt_iff_lt_mul hp).2 hj
    have hf : j % Flat.n α < Flat.n α := Nat.mod_lt _ hp
    have hg : (Flat.enc z0)[j % Flat.n α]? = some ((Flat.enc z0)[j % Flat.n α]'(by rw [Flat.len]; exact hf)) := List.getElem?_eq_getElem _
    have h2 := enc_flat (List.replicate n z0) (j / Flat.n α) z0 (by rw [List.getElem?_replicate, if_pos hd]) (j % Flat.n α) _ hg
    rw [show j / Flat.n α * Flat.n α + j % Flat.n α = j by rw [Nat.mul_comm]; exact Nat.div_add_mod j _] at h2
    rw [h2, Array.getElem?_toList, Array.getElem?_eq_getElem (by omega)]
    congr 1
    simp only [Builtin.zeroCells, Array.getElem_map, Array.getElem_range, hs]
    rw [getElem!_pos _ _ (by rw [hs]; exact hf)]
    have : z.cells[j % Flat.n α]'(by rw [hs]; exact hf) = z.cells.toList[j % Flat.n α]'(by rw [Array.length_toList, hs]; exact hf) := by simp
    rw [this]
    congr 1
  · rw [List.getElem?_eq_none (by rw [Array.length_toList]; omega), List.getElem?_eq_none (by rw [enc_length, List.length_replicate]; omega)]
structure TyN (P : Program) (T E : TypeId) (z0 : α) : Prop where
  und : P.underlying T = some (.slice E)
  info : ∃ i z, P.info? E = some i ∧ i.zero = some z ∧ i.size = Flat.n α ∧ i.bytes ≤ 128 ∧ z.cells.toList = Flat.enc z0
theorem run_append_zeros {w : World} {T E Tn : TypeId} {z0 : α} (ty : TyN P T E z0) {kn : IntKind} (htn : P.underlying Tn = some (.int kn)) {B : Nat} {a : Option Addr} {c : Nat} {l : List α} (own : Own w B E a c l) (m : Nat) (k : IntKind) (t0 : TypeId)
    (hB : B ≤ w.heap.size) (hl : l.length ≤ 1000000000) (hm : m ≤ 1000000000) :
    ∃ a' c' w', (Builtin.append_ #[T, Tn] t0 #[.slice a l.length c, .int k m]).run P w = .ok (.slice a' (l.length + m) c') w' ∧ Own w' B E a' c' (l ++ List.replicate m z0) ∧ w.grownBy w' (a.map (·.block)) ∧
      (a'.map (·.block) = a.map (·.block) ∨ ∃ g, a'.map (·.block) = some g ∧ w.heap.size ≤ g) := by
  obtain ⟨i, z, hi, hz, hsz, hby, hzc⟩ := ty.info
  have hzs : z.cells.size = Flat.n α := by rw [← Array.length_toList, hzc, Flat.len]
  have hp : 0 < i.size := by rw [hsz]; exact Flat.pos
  have hmb : m * i.bytes ≤ 281474976710656 := Nat.le_trans (Nat.mul_le_mul hm hby) (by decide)
  have hlen : (l.flatMap Flat.enc).length = l.length * i.size := by rw [enc_length, hsz]
  have hzl : (Builtin.zeroCells z.cells m).size = m * i.size := by rw [size_zeroCells, hzs, hsz]
  have hLL : (l.flatMap Flat.enc ++ (Builtin.zeroCells z.cells m).toList).length = (l.length + m) * Flat.n α := by
    have hz2 : (Builtin.zeroCells z.cells m).toList.length = m * i.size := by rw [Array.length_toList]; exact hzl
    rw [List.length_append, hlen, hz2, hsz, Nat.add_mul]
  have hnf : (l ++ List.replicate m z0).flatMap Flat.enc = l.flatMap Flat.enc ++ (Builtin.zeroCells z.cells m).toList := by rw [List.flatMap_append, zeroCells_flat hzc]
  have h1 : ∀ u ∈ (Builtin.zeroCells z.cells m).toList, u.oneCell' = true := by rw [zeroCells_flat hzc]; exact enc_one _
  have grown : ∀ (old : Nat), old < l.length + m → ∀ (row : Option Nat),
      Own (w.drew.alloc (.cells ((l.flatMap Flat.enc).toArray ++ Builtin.zeroCells z.cells m ++ Builtin.zeroCells z.cells (grownCap w (l.length + m) old E - (l.length + m))) E)) B E (some ⟨w.heap.size, 0, none⟩) (grownCap w (l.length + m) old E) (l ++ List.replicate m z0) ∧
      w.grownBy (w.drew.alloc (.cells ((l.flatMap Flat.enc).toArray ++ Builtin.zeroCells z.cells m ++ Builtin.zeroCells z.cells (grownCap w (l.length + m) old E - (l.length + m))) E)) row := by
    intro old ho row
    have hge := grownCap_ge w (l.length + m) old E
    have hcm : grownCap w (l.length + m) old E ≤ maxLen := grownCap_le_maxLen w (l.length + m) old E (by simp only [maxLen]; omega)
    refine ⟨?_, ⟨rfl, rfl, rfl, by simp, fun k hk _ => Below.heap_alloc w.drew _ k hk⟩⟩
    unfold Own
    rw [hnf, List.length_append, List.length_replicate]
    refine ⟨hLL, .inr ⟨w.heap.size, _, _, rfl, hB, heap_alloc_new w.drew _, hge, hcm, ?_, ?_⟩⟩
    · simp only [Array.size_append, List.size_toArray, size_zeroCells, hzs, hlen, hsz, ← Nat.add_mul]
      congr 1
      omega
    · simp only [Array.toList_append, List.append_assoc]
      rw [← List.append_assoc]
      rw [← hLL]
      exact List.take_left
  rcases own.2 with ⟨hv, h0⟩ | ⟨g, cap, cur, hv, hbg, hg, hnc, hcm, hcs, htake⟩
  · injection hv with e1 e2 e3
    subst e1 e3
    have hx : l = [] := List.eq_nil_of_length_eq_zero h0
    subst hx
    rcases Nat.eq_zero_or_pos m with rfl | hm0
    · refine ⟨none, 0, w, ?_, by simpa using Own.none w B E, World.grownBy.refl w _, .inl rfl⟩
      have hw0 : IntKind.i64.wrap 0 = 0 := by rw [IntKind.wrap_i64]; rfl
      simp [Builtin.append_, run_underlying ty.und, run_underlying htn, sizeOf, typeInfo, hi, asInt, asIntOf, hw0, Builtin.firstCells]
    · have hr := Lib.run_append_nil_zeros w T Tn t0 E i z k kn ty.und htn hi hz m hm0 hp (by omega) hmb
      have hgr := grown 0 (by simp; omega) none
      simp only [List.length_nil, Nat.zero_add, List.nil_append, List.flatMap_nil, Array.empty_append] at hgr ⊢
      exact ⟨_, _, _, hr, hgr.1, hgr.2, .inr ⟨_, rfl, Nat.le_refl _⟩⟩
  · injection hv with e1 e2 e3
    subst e1 e3
    by_cases hroom : l.length + m ≤ c
    · have hfit : l.length * i.size + m * i.size ≤ cur.size := by rw [hcs, ← Nat.add_mul, hsz]; exact Nat.mul_le_mul_right _ hroom
      have hr := run_append_room_z w T Tn t0 E i z k kn ty.und htn hi hz g l.length c cur hg m hp hzl h1 hroom hfit (by omega) hmb
      refine ⟨_, _, _, hr, ?_, ⟨rfl, rfl, rfl, by simp [World.setRow], fun k _ hk => setRow_other w g k _ (fun e => hk (by simp [e]))⟩, .inl rfl⟩
      unfold Own
      rw [hnf, List.length_append, List.length_replicate]
      refine ⟨hLL, .inr ⟨g, c, _, rfl, hbg, setRow_heap w g cur _ E _ hg, hroom, hcm, ?_, ?_⟩⟩
      · simp only [List.size_toArray, List.length_append, List.length_take, List.length_drop, Array.length_toList, hzl]
        rw [← hcs]; omega
      · rw [hsz, htake]
        rw [← hLL]
        exact List.take_left
    · have holds : ∀ j u, (l.flatMap Flat.enc)[j]? = some u → w.cell? ((⟨g, 0, none⟩ : Addr).add j) = some u := World.ownsRow.cells own (g := g) rfl
      have hr := run_append_grow_z w T Tn t0 E i z k kn ty.und htn hi hz ⟨g, 0, none⟩ l.length c _ hlen holds m hp (by omega) hnc (by omega) hmb (growslice_fits (by omega) (Nat.le_trans (Nat.mul_le_mul (show l.length + m ≤ 2000000000 by omega) hby) (by decide)))
      have hgr := grown c (by omega) (some g)
      exact ⟨_, _, _, hr, hgr.1, hgr.2, .inr ⟨_, rfl, Nat.le_refl _⟩⟩
theorem step_zeros {ops : Array Oper} {o : Oper} {act : Act} {K : Act → World → Prop} {Q : Exit → Act → World → Prop} {E' : Prop} {w : World} {T E Tn : TypeId} {z0 : α} (ty : TyN P T E z0) {kn : IntKind} (htn : P.underlying Tn = some (.int kn)) {B : Nat} {a : Option Addr} {c : Nat} {l : List α} (own : Own w B E a c l) {s x : Operand} (hgd : o.guard = none)
    (ho : o.op = .call { callee := .builtin .append, args := #[s, x], argTypes := #[T, Tn] })
    {n m : Nat} {M : Int} {k : IntKind} (hs : act.eval s = .slice a n c) (hx : act.eval x = .int k M) (hM : M = (m : Int)) (hn : n = l.length) (hB : B ≤ w.heap.size) (hl : n ≤ 1000000000) (hm : m ≤ 1000000000)
    (h : ∀ a' c' w', Own w' B E a' c' (l ++ List.replicate m z0) → w.grownBy w' (a.map (·.block)) → (a'.map (·.block) = a.map (·.block) ∨ ∃ g, a'.map (·.block) = some g ∧ w.heap.size ≤ g) → K (act.put o.dst (.slice a' (n + m) c')) w') :
    if Region.wanted o (yielded ops act.tmps) = true then Oper.wp P o act w K Q else E' := by
  have hw : Region.wanted o (yielded ops act.tmps) = true := by simp [Region.wanted, hgd]
  rw [if_pos hw]
  subst hn hM
  obtain ⟨a', c', w', hr, h1, h2, h3⟩ := run_append_zeros ty htn own m k o.type hB hl hm
  unfold Oper.wp execOp
  simp only [ho, resolve, invoke, builtin, Sem.run_bind, Sem.run_pure, Result.andThen_ok, List.map_toArray, List.map_cons, List.map_nil, hs, hx, hr]
  exact h a' c' w' h1 h2 h3
theorem TyN.of {T E : TypeId} {z0 : α} {z : Value} {size bytes : Nat} (h0 : P.underlying T = some (.slice E)) (h : (P.info? E).map (fun i => (i.zero, i.size, i.bytes)) = some (some z, size, bytes))
    (h1 : size = Flat.n α) (h2 : bytes ≤ 128) (h3 : z.cells.toList = Flat.enc z0) : TyN P T E z0 := by
  obtain ⟨i, hi, hz0, hz1, hz2⟩ := info_parts h
  exact ⟨h0, i, z, hi, hz0, hz1.trans h1, by omega, h3⟩
end
end Go.Proofs.YtcamcnahkdiefaaGreat

/- Plain facts on the machine that goes back through code; tapes; adjoints. No program is named here. -/
namespace Go.Proofs.YtcamcnahkdiefaaGreat
set_option linter.unusedVariables false
set_option linter.unusedSimpArgs false
open Go.RowKit

def vC (c : List (OpD × Int)) (i : Int) : UInt64 := (c[i.toNat]?.map (·.1.v)).getD 0
def Tk.back (c : List (OpD × Int)) (x : Tk) : Int × List UInt64 :=
  if x.op.kind = 0 then ((x.at' : Int) - 1, x.st ++ [vC c (x.to - 1)])
  else if x.op.kind = 7 then (if 1 < (x.st.getLast?.getD 0).toNat then (x.to - 2, x.st.dropLast ++ [x.st.getLast?.getD 0 - 1]) else ((x.at' : Int) - 1, x.st.dropLast))
  else ((x.at' : Int) - 1, x.st)
def ChnB (c : List (OpD × Int)) : Int × List UInt64 → List Tk → Int × List UInt64 → Prop
  | s, [], e => s = e
  | s, x :: r, e => s = ((x.at' : Int), x.st) ∧ c[x.at']? = some (x.op, x.to) ∧ ChnB c (x.back c) r e
theorem ChnB.append {c : List (OpD × Int)} {s m e : Int × List UInt64} {a b : List Tk} (h1 : ChnB c s a m) (h2 : ChnB c m b e) : ChnB c s (a ++ b) e := by
  induction a generalizing s with
  | nil => obtain rfl : s = m := h1; exact h2
  | cons x r ih => exact ⟨h1.1, h1.2.1, ih h1.2.2⟩
def trRB (b : List UInt64 → List Tk) (o : Nat) (op : OpD) (tot : Int) (st : List UInt64) : Nat → List Tk
  | 0 => []
  | k + 1 => b (st ++ [UInt64.ofNat (k + 1)]) ++ ⟨o, st ++ [UInt64.ofNat (k + 1)], op, tot⟩ :: trRB b o op tot st k
def Fo.trB : Nat → Fo → List UInt64 → List Tk
  | _, .nil, _ => []
  | o, .leaf op r, st => trB (o + 1) r st ++ [⟨o, st, op, 0⟩]
  | o, .rep op b fin r, st => trB (o + b.size + 2) r st ++ ⟨o + b.size + 1, st, fin, ((o + 1 : Nat) : Int)⟩ :: trRB (trB (o + 1) b) o op ((o + b.size + 2 : Nat) : Int) st op.v.toNat
theorem trRB_chn {c : List (OpD × Int)} {b : List UInt64 → List Tk} {o e : Nat} {op : OpD} {tot : Int} {st : List UInt64} (h0 : op.kind = 7) (hc : c[o]? = some (op, tot)) (hto : tot - 2 = (e : Int))
    (hb : ∀ s, ChnB c ((e : Int), s) (b s) ((o : Int), s)) : ∀ k : Nat, 1 ≤ k → k < 18446744073709551616 → ChnB c ((e : Int), st ++ [UInt64.ofNat k]) (trRB b o op tot st k) ((o : Int) - 1, st) := by
  intro k
  induction k with
  | zero => intro h; omega
  | succ k ih =>
    intro _ hk
    unfold trRB
    refine ChnB.append (hb _) ⟨rfl, hc, ?_⟩
    have hl : (st ++ [UInt64.ofNat (k + 1)]).getLast?.getD 0 = UInt64.ofNat (k + 1) := by simp
    have hn : (UInt64.ofNat (k + 1)).toNat = k + 1 := toNat_ofNat' hk
    by_cases h1 : k = 0
    · subst h1
      show Tk.back _ _ = _
      unfold Tk.back
      rw [if_neg (by simp [h0]), if_pos h0]
      simp only [hl, hn]
      rw [if_neg (by omega)]
      simp
    · have : Tk.back c ⟨o, st ++ [UInt64.ofNat (k + 1)], op, tot⟩ = ((e : Int), st ++ [UInt64.ofNat k]) := by
        unfold Tk.back
        rw [if_neg (by simp [h0]), if_pos h0]
        simp only [hl, hn]
        rw [if_pos (by omega), hto]
        have e2 : UInt64.ofNat (k + 1) - 1 = UInt64.ofNat k := by
          rw [show UInt64.ofNat (k + 1) = UInt64.ofNat k + 1 by simp [UInt64.ofNat_add]]
          simp
        rw [e2]
        simp
      rw [this]
      exact ih (by omega) (by omega)
theorem Fo.trB_chn (f : Fo) (hf : f.ok) (hv : f.full) : ∀ (c pre post : List (OpD × Int)) (o : Nat) (st : List UInt64), c = pre ++ f.code o ++ post → pre.length = o → ChnB c ((o : Int) + f.size - 1, st) (f.trB o st) ((o : Int) - 1, st) := by
  induction f with
  | nil => intro c pre post o st _ _; show ((o : Int) + ((0 : Nat) : Int) - 1, st) = ((o : Int) - 1, st); simp
  | leaf op r ih =>
    intro c pre post o st hc hp
    obtain ⟨h1, h2, h3⟩ := hf
    have hat : c[o]? = some (op, 0) := by subst hp; rw [hc]; simp [code]
    have i1 := ih h3 hv c (pre ++ [(op, 0)]) post (o + 1) st (by rw [hc]; simp [code]) (by simp [hp])
    rw [Fo.size_leaf]
    rw [show (((o + 1 : Nat) : Int) + r.size - 1) = ((o : Int) + ((r.size + 1 : Nat) : Int) - 1) by omega] at i1
    refine ChnB.append i1 ⟨by simp, hat, ?_⟩
    show Tk.back c ⟨o, st, op, 0⟩ = _
    unfold Tk.back
    rw [if_neg (by simp only; omega), if_neg (by simp only; omega)]
  | rep op b fin r ihb ihr =>
    intro c pre post o st hc hp
    obtain ⟨h1, h2, h3, h4⟩ := hf
    obtain ⟨v1, v2, v3, v4⟩ := hv
    have hato : c[o]? = some (op, ((o + b.size + 2 : Nat) : Int)) := by subst hp; rw [hc]; simp [code]
    have hce : c = (pre ++ (op, ((o + b.size + 2 : Nat) : Int)) :: b.code (o + 1)) ++ (fin, ((o + 1 : Nat) : Int)) :: (r.code (o + b.size + 2) ++ post) := by rw [hc]; simp [code]
    have hat : c[o + b.size + 1]? = some (fin, ((o + 1 : Nat) : Int)) := by
      rw [hce, List.getElem?_append_right (by simp [code_length] <;> omega)]
      simp only [List.length_append, List.length_cons, code_length]
      rw [show o + b.size + 1 - (pre.length + (b.size + 1)) = 0 by omega]
      rfl
    have i1 := ihr h4 v4 c (pre ++ (op, ((o + b.size + 2 : Nat) : Int)) :: (b.code (o + 1) ++ [(fin, ((o + 1 : Nat) : Int))])) post (o + b.size + 2) st (by rw [hce]; simp) (by simp [code_length, hp] <;> omega)
    rw [Fo.size_rep]
    rw [show (((o + b.size + 2 : Nat) : Int) + r.size - 1) = ((o : Int) + ((b.size + r.size + 2 : Nat) : Int) - 1) by omega] at i1
    refine ChnB.append i1 ⟨by simp <;> omega, hat, ?_⟩
    have hn : Tk.back c ⟨o + b.size + 1, st, fin, ((o + 1 : Nat) : Int)⟩ = (((o + b.size : Nat) : Int), st ++ [UInt64.ofNat op.v.toNat]) := by
      unfold Tk.back
      rw [if_pos h3]
      have e : vC c (((o + 1 : Nat) : Int) - 1) = op.v := by
        unfold vC
        rw [show (((o + 1 : Nat) : Int) - 1).toNat = o by omega, hato]
        rfl
      simp only [e, ofNat_toNat']
      congr 1
      omega
    rw [hn]
    refine trRB_chn (e := o + b.size) h1 hato (by omega) (fun s => ?_) op.v.toNat v1 op.v.toNat_lt
    have := ihb h2 v3 c (pre ++ [(op, ((o + b.size + 2 : Nat) : Int))]) ((fin, ((o + 1 : Nat) : Int)) :: (r.code (o + b.size + 2) ++ post)) (o + 1) s (by rw [hce]; simp) (by simp [hp])
    rwa [show (((o + 1 : Nat) : Int) + b.size - 1) = ((o + b.size : Nat) : Int) by omega, show (((o + 1 : Nat) : Int) - 1) = (o : Int) by omega] at this

theorem trRB_wrs {b : List UInt64 → List Tk} {g : List OpD} {o : Nat} {op : OpD} {tot : Int} {st : List UInt64} (h7 : op.kind = 7) (h : ∀ s, wrs ((b s).map (·.op)) = g) : ∀ k, wrs ((trRB b o op tot st k).map (·.op)) = (List.replicate k g).flatten := by
  intro k
  induction k with
  | zero => rfl
  | succ k ih =>
    have e2 : ∀ l, wrs (op :: l) = wrs l := fun l => by simp [wrs, h7]
    simp only [trRB, List.map_append, List.map_cons, wrs_append, h, e2, ih, List.replicate_succ, List.flatten_cons]
theorem rep_rev (n : Nat) (l : List OpD) : (List.replicate n l).flatten.reverse = (List.replicate n l.reverse).flatten := by
  induction n with
  | zero => rfl
  | succ n ih =>
    rw [List.replicate_succ, List.flatten_cons, List.reverse_append, ih]
    have : ∀ m : Nat, (List.replicate m l.reverse).flatten ++ l.reverse = (List.replicate (m + 1) l.reverse).flatten := by
      intro m
      rw [List.replicate_succ']
      simp
    exact this n
theorem Fo.trB_wrs (f : Fo) (hf : f.ok) : ∀ (o : Nat) (st : List UInt64), wrs ((f.trB o st).map (·.op)) = f.unroll.reverse := by
  induction f with
  | nil => intro o st; rfl
  | leaf op r ih =>
    intro o st
    obtain ⟨h1, h2, h3⟩ := hf
    simp only [trB, unroll, List.map_append, wrs_append, ih h3, List.reverse_cons, List.map_cons, List.map_nil]
    congr 1
    unfold wrs
    rw [List.filter_cons, if_pos (by simp <;> omega)]
    rfl
  | rep op b fin r ihb ihr =>
    intro o st
    obtain ⟨h1, h2, h3, h4⟩ := hf
    have e2 : ∀ l, wrs (fin :: l) = wrs l := fun l => by simp [wrs, h3]
    simp only [trB, unroll, List.map_append, List.map_cons, wrs_append, ihr h4, e2, List.reverse_append]
    rw [trRB_wrs h1 (fun s => ihb h2 _ s), rep_rev]
theorem trRB_depth {b : List UInt64 → List Tk} {o : Nat} {op : OpD} {tot : Int} {st : List UInt64} {P : Tk → Prop} (hb : ∀ k : Nat, ∀ x ∈ b (st ++ [UInt64.ofNat (k + 1)]), P x) (he : ∀ k : Nat, P ⟨o, st ++ [UInt64.ofNat (k + 1)], op, tot⟩) : ∀ k, ∀ x ∈ trRB b o op tot st k, P x := by
  intro k
  induction k with
  | zero => intro x hx; cases hx
  | succ k ih =>
    intro x hx
    unfold trRB at hx
    rcases List.mem_append.1 hx with hx | hx
    · exact hb k x hx
    · rcases List.mem_cons.1 hx with rfl | hx
      · exact he k
      · exact ih x hx
def TkB (n D : Nat) (ops : List OpD) (x : Tk) : Prop := x.at' < n ∧ x.st.length ≤ D ∧ (x.op.kind = 0 → x.st.length < D ∧ 1 ≤ x.to ∧ x.to ≤ (n : Int)) ∧ (x.op.kind = 7 → x.st ≠ [] ∧ 2 ≤ x.to ∧ x.to ≤ (n : Int)) ∧ x.op ∈ ops ∧ 0 ≤ x.op.kind ∧ x.op.kind ≤ 7
theorem TkB.mono {n m D : Nat} {a b : List OpD} {x : Tk} (h : TkB n D a x) (hn : n ≤ m) (hs : ∀ y ∈ a, y ∈ b) : TkB m D b x :=
  ⟨by have := h.1; omega, h.2.1, fun hk => by have := h.2.2.1 hk; omega, fun hk => ⟨(h.2.2.2.1 hk).1, by have := h.2.2.2.1 hk; omega⟩, hs _ h.2.2.2.2.1, h.2.2.2.2.2⟩
theorem Fo.trB_tk (f : Fo) (hf : f.ok) : ∀ (o D : Nat) (st : List UInt64), st.length + f.dp ≤ D → ∀ x ∈ f.trB o st, TkB (o + f.size) D f.flat x := by
  induction f with
  | nil => intro o D st _ x hx; cases hx
  | leaf op r ih =>
    intro o D st hD x hx
    obtain ⟨h1, h2, h3⟩ := hf
    rcases List.mem_append.1 hx with hx | hx
    · exact (ih h3 (o + 1) D st hD x hx).mono (by rw [Fo.size_leaf]; omega) (fun y hy => by simp [flat, hy])
    · simp only [List.mem_singleton] at hx
      subst hx
      exact ⟨by rw [Fo.size_leaf]; simp <;> omega, by simp only [dp] at hD; simp <;> omega, fun h => by simp at h; omega, fun h => by simp at h; omega, by simp [flat], by simp <;> omega, by simp <;> omega⟩
  | rep op b fin r ihb ihr =>
    intro o D st hD x hx
    obtain ⟨h1, h2, h3, h4⟩ := hf
    simp only [dp] at hD
    rcases List.mem_append.1 hx with hx | hx
    · exact (ihr h4 (o + b.size + 2) D st (by omega) x hx).mono (by rw [Fo.size_rep]; omega) (fun y hy => by simp [flat, hy])
    · rcases List.mem_cons.1 hx with rfl | hx
      · exact ⟨by rw [Fo.size_rep]; simp <;> omega, by simp <;> omega, fun h => ⟨by simp <;> omega, by simp <;> omega, by rw [Fo.size_rep]; simp <;> omega⟩, fun h => by simp [h3] at h, by simp [flat], by simp [h3], by simp [h3]⟩
      · refine trRB_depth (P := TkB (o + (Fo.rep op b fin r).size) D (Fo.rep op b fin r).flat) (fun k y hy => ?_) (fun k => ?_) _ x hx
        · exact (ihb h2 (o + 1) D _ (by simp <;> omega) y hy).mono (by rw [Fo.size_rep]; omega) (fun y hy => by simp [flat, hy])
        · exact ⟨by rw [Fo.size_rep]; simp <;> omega, by simp <;> omega, fun h => by simp [h1] at h, fun h => ⟨by simp, by simp <;> omega, by rw [Fo.size_rep]; simp <;> omega⟩, by simp [flat], by simp [h1], by simp [h1]⟩
end Go.Proofs.YtcamcnahkdiefaaGreat

/- Plain facts on derivatives: tangents, adjoints, and that they are each other's transposed. No program is named here. -/
namespace Go.Proofs.YtcamcnahkdiefaaGreat
set_option linter.unusedVariables false
set_option linter.unusedSimpArgs false
open Go.RowKit

def tanU (x : OpD) (r t : List UInt64) : UInt64 := (partU x (getR r x.a) (getR r x.b)).1 * getR t x.a + (partU x (getR r x.a) (getR r x.b)).2 * getR t x.b
def stepT (x : OpD) (r t : List UInt64) : List UInt64 := t.set x.d.toNat (tanU x r t)
def runT : List OpD → List UInt64 → List UInt64 → List UInt64
  | [], _, t => t
  | x :: l, r, t => runT l (stepR r x) (stepT x r t)
theorem stepT_length (x : OpD) (r t : List UInt64) : (stepT x r t).length = t.length := by simp [stepT]
theorem runT_length (l : List OpD) (r t : List UInt64) : (runT l r t).length = t.length := by
  induction l generalizing r t with
  | nil => rfl
  | cons x l ih => show (runT l _ _).length = _; rw [ih, stepT_length]
def addR (l : List UInt64) (i : Int) (v : UInt64) : List UInt64 := l.set i.toNat (getR l i + v)
def takeA (x : OpD) (r w : List UInt64) : List UInt64 :=
  addR (addR (w.set x.d.toNat 0) x.a ((partU x (getR r x.a) (getR r x.b)).1 * getR w x.d)) x.b ((partU x (getR r x.a) (getR r x.b)).2 * getR w x.d)
def backA : List OpD → List UInt64 → List UInt64 → List UInt64
  | [], _, w => w
  | x :: l, r, w => takeA x r (backA l (stepR r x) w)
theorem takeA_length (x : OpD) (r w : List UInt64) : (takeA x r w).length = w.length := by simp [takeA, addR]
theorem backA_length (l : List OpD) (r w : List UInt64) : (backA l r w).length = w.length := by
  induction l generalizing r w with
  | nil => rfl
  | cons x l ih => show (takeA x r (backA l _ w)).length = _; rw [takeA_length, ih]
/-! ### The product of two rows -/
def dotU : List UInt64 → List UInt64 → UInt64
  | x :: a, y :: b => x * y + dotU a b
  | _, _ => 0
theorem dot_set_left (a b : List UInt64) (i : Nat) (v : UInt64) (h : a.length = b.length) (hi : i < a.length) : dotU (a.set i v) b = dotU a b + (v - (a[i]?).getD 0) * (b[i]?).getD 0 := by
  induction a generalizing b i with
  | nil => simp at hi
  | cons x a ih =>
    cases b with
    | nil => simp at h
    | cons y b =>
      cases i with
      | zero => simp [dotU]; grind
      | succ i =>
        simp only [List.set_cons_succ, dotU, List.getElem?_cons_succ]
        rw [ih b i (by simpa using h) (by simpa using hi)]
        grind
theorem dot_comm (a b : List UInt64) : dotU a b = dotU b a := by
  induction a generalizing b with
  | nil => cases b <;> rfl
  | cons x a ih =>
    cases b with
    | nil => rfl
    | cons y b => simp only [dotU]; rw [ih b]; grind
theorem dot_set_right (a b : List UInt64) (i : Nat) (v : UInt64) (h : a.length = b.length) (hi : i < a.length) : dotU a (b.set i v) = dotU a b + (v - (b[i]?).getD 0) * (a[i]?).getD 0 := by
  rw [dot_comm, dot_set_left b a i v h.symm (by omega), dot_comm]
theorem dot_take (x : OpD) (regs : Int) (r w t : List UInt64) (hx : InR regs x) (hw : (w.length : Int) = regs) (ht : w.length = t.length) : dotU (takeA x r w) t = dotU w (stepT x r t) := by
  obtain ⟨⟨d1, d2⟩, ⟨a1, a2⟩, ⟨b1, b2⟩⟩ := hx
  unfold takeA addR stepT tanU
  obtain ⟨p, hp⟩ : ∃ p, p = (partU x (getR r x.a) (getR r x.b)).1 := ⟨_, rfl⟩
  obtain ⟨q, hq⟩ : ∃ q, q = (partU x (getR r x.a) (getR r x.b)).2 := ⟨_, rfl⟩
  rw [← hp, ← hq]
  rw [dot_set_left _ _ _ _ (by simp [ht]) (by simp <;> omega), dot_set_left _ _ _ _ (by simp [ht]) (by simp <;> omega), dot_set_left _ _ _ _ ht (by omega), dot_set_right _ _ _ _ ht (by omega)]
  show dotU w t + (0 - getR w x.d) * getR t x.d + (getR (w.set x.d.toNat 0) x.a + p * getR w x.d - getR (w.set x.d.toNat 0) x.a) * getR t x.a +
    (getR ((w.set x.d.toNat 0).set x.a.toNat (getR (w.set x.d.toNat 0) x.a + p * getR w x.d)) x.b + q * getR w x.d - getR ((w.set x.d.toNat 0).set x.a.toNat (getR (w.set x.d.toNat 0) x.a + p * getR w x.d)) x.b) * getR t x.b =
    dotU w t + (p * getR t x.a + q * getR t x.b - getR t x.d) * getR w x.d
  generalize getR (w.set x.d.toNat 0) x.a = u1
  generalize getR ((w.set x.d.toNat 0).set x.a.toNat (u1 + p * getR w x.d)) x.b = u2
  generalize getR w x.d = g
  generalize getR t x.a = ta
  generalize getR t x.b = tb
  generalize getR t x.d = td
  generalize dotU w t = D
  grind
theorem dot_back (l : List OpD) (regs : Int) (hl : ∀ x ∈ l, InR regs x) : ∀ (r w t : List UInt64), (w.length : Int) = regs → w.length = t.length → dotU (backA l r w) t = dotU w (runT l r t) := by
  induction l with
  | nil => intro r w t _ _; rfl
  | cons x l ih =>
    intro r w t hw ht
    show dotU (takeA x r (backA l (stepR r x) w)) t = _
    rw [dot_take x regs r _ t (hl x (by simp)) (by rw [backA_length]; exact hw) (by rw [backA_length]; exact ht), ih (fun y hy => hl y (by simp [hy])) _ w _ hw (by rw [stepT_length]; exact ht)]
    rfl
def unitR (n i : Nat) : List UInt64 := (List.replicate n 0).set i 1
theorem dot_zero (a : List UInt64) (n : Nat) : dotU a (List.replicate n 0) = 0 := by
  induction a generalizing n with
  | nil => cases n <;> rfl
  | cons x a ih => cases n with
    | zero => rfl
    | succ n => simp only [List.replicate_succ, dotU]; rw [ih]; grind
theorem dot_unit (a : List UInt64) (i : Nat) (hi : i < a.length) : dotU a (unitR a.length i) = (a[i]?).getD 0 := by
  unfold unitR
  rw [dot_set_right _ _ _ _ (by simp) hi, dot_zero]
  simp [hi]
/-! ### Linearity -/
/-! ### Tapes -/
def tapeR : List OpD → List UInt64 → List UInt64
  | [], _ => []
  | x :: l, r => getR r x.d :: tapeR l (stepR r x)
theorem tapeR_length (l : List OpD) (r : List UInt64) : (tapeR l r).length = l.length := by
  induction l generalizing r with
  | nil => rfl
  | cons x l ih => simp [tapeR, ih]
def undoR : List OpD → List UInt64 → List UInt64 → List UInt64
  | x :: l, v :: t, r => (undoR l t r).set x.d.toNat v
  | _, _, r => r
theorem undoR_length (l : List OpD) (t r : List UInt64) : (undoR l t r).length = r.length := by
  induction l generalizing t r with
  | nil => rfl
  | cons x l ih => cases t with
    | nil => rfl
    | cons v t => simp [undoR, ih]
theorem set_getR (r : List UInt64) (d : Int) (v : UInt64) : (r.set d.toNat v).set d.toNat (getR r d) = r := by
  rw [List.set_set]
  unfold getR
  by_cases h : d.toNat < r.length
  · rw [List.getElem?_eq_getElem h]; simp
  · rw [List.set_eq_of_length_le (by omega)]
def backR : List OpD → List UInt64 → List UInt64 → List UInt64 → List UInt64 × List UInt64
  | x :: l, v :: t, r, w => let s := backR l t r w; (s.1.set x.d.toNat v, takeA x (s.1.set x.d.toNat v) s.2)
  | _, _, r, w => (r, w)
theorem backR_undo (l : List OpD) (t r w : List UInt64) : (backR l t r w).1 = undoR l t r := by
  induction l generalizing t r w with
  | nil => rfl
  | cons x l ih => cases t with
    | nil => rfl
    | cons v t => simp [backR, undoR, ih]
theorem backR_length (l : List OpD) (t r w : List UInt64) : (backR l t r w).2.length = w.length := by
  induction l generalizing t r w with
  | nil => rfl
  | cons x l ih => cases t with
    | nil => rfl
    | cons v t => simp [backR, takeA_length, ih]
theorem backR_tape (l : List OpD) (r w : List UInt64) : backR l (tapeR l r) (runR l r) w = (r, backA l r w) := by
  induction l generalizing r w with
  | nil => rfl
  | cons x l ih =>
    have h := ih (stepR r x) w
    show (let s := backR l (tapeR l (stepR r x)) (runR l (stepR r x)) w; (s.1.set x.d.toNat (getR r x.d), takeA x (s.1.set x.d.toNat (getR r x.d)) s.2)) = _
    rw [h]
    simp only
    rw [show (stepR r x).set x.d.toNat (getR r x.d) = r from set_getR r x.d _]
    rfl
end Go.Proofs.YtcamcnahkdiefaaGreat

/- Plain facts on tapes: what a run has written so far, what has been taken back so far; the machine's steps back. No program is named here. -/
namespace Go.Proofs.YtcamcnahkdiefaaGreat
set_option linter.unusedVariables false
set_option linter.unusedSimpArgs false
open Go.RowKit

theorem tapeR_snoc (l : List OpD) (x : OpD) (r : List UInt64) : tapeR (l ++ [x]) r = tapeR l r ++ [getR (runR l r) x.d] := by
  induction l generalizing r with
  | nil => rfl
  | cons y l ih =>
    show getR r y.d :: tapeR (l ++ [x]) (stepR r y) = _
    rw [ih]; rfl
def tpR (P : List OpD) (r t : List UInt64) : List UInt64 := tapeR P r ++ t.drop P.length
theorem tpR_length (P : List OpD) (r t : List UInt64) (h : P.length ≤ t.length) : (tpR P r t).length = t.length := by
  unfold tpR
  rw [List.length_append, tapeR_length, List.length_drop]; omega
theorem tpR_snoc (P : List OpD) (x : OpD) (r t : List UInt64) (h : P.length < t.length) : tpR (P ++ [x]) r t = (tpR P r t).set P.length (getR (runR P r) x.d) := by
  unfold tpR
  rw [tapeR_snoc, List.set_append, if_neg (by rw [tapeR_length]; omega), tapeR_length, Nat.sub_self, List.drop_eq_getElem_cons h, List.set_cons_zero, List.append_assoc, List.length_append]
  rfl
def bkR (n : Nat) (t r w : List UInt64) (Q : List OpD) : List UInt64 × List UInt64 := backR Q (t.drop (n - Q.length)) r w
def unR (n : Nat) (t r : List UInt64) (Q : List OpD) : List UInt64 := undoR Q (t.drop (n - Q.length)) r
theorem drop_pre {t : List UInt64} {n q : Nat} {v : UInt64} (hn : q + 1 ≤ n) (hv : t[n - q - 1]? = some v) : t.drop (n - (q + 1)) = v :: t.drop (n - q) := by
  have h := drop_at hv
  rw [show n - (q + 1) = n - q - 1 by omega, h, show n - q - 1 + 1 = n - q by omega]
theorem bkR_cons {n : Nat} {t r w : List UInt64} {Q : List OpD} {x : OpD} {v : UInt64} (hn : Q.length + 1 ≤ n) (hv : t[n - Q.length - 1]? = some v) :
    bkR n t r w (x :: Q) = ((bkR n t r w Q).1.set x.d.toNat v, takeA x ((bkR n t r w Q).1.set x.d.toNat v) (bkR n t r w Q).2) := by
  unfold bkR
  rw [List.length_cons, drop_pre hn hv]
  rfl
theorem bkR_all (U : List OpD) (t r w : List UInt64) : bkR U.length t r w U = backR U t r w := by unfold bkR; rw [Nat.sub_self, List.drop_zero]
theorem unR_length (n : Nat) (t r : List UInt64) (Q : List OpD) : (unR n t r Q).length = r.length := undoR_length _ _ _
theorem bkR_fst (n : Nat) (t r w : List UInt64) (Q : List OpD) : (bkR n t r w Q).1 = unR n t r Q := backR_undo _ _ _ _
theorem bkR_len1 (n : Nat) (t r w : List UInt64) (Q : List OpD) : (bkR n t r w Q).1.length = r.length := by rw [bkR_fst, unR_length]
theorem bkR_len2 (n : Nat) (t r w : List UInt64) (Q : List OpD) : (bkR n t r w Q).2.length = w.length := backR_length _ _ _ _
theorem backR_more (U : List OpD) : ∀ (t s r w : List UInt64), U.length ≤ t.length → backR U (t ++ s) r w = backR U t r w := by
  induction U with
  | nil => intro t s r w _; cases t <;> cases s <;> rfl
  | cons x U ih =>
    intro t s r w h
    cases t with
    | nil => simp at h
    | cons v t => simp only [List.cons_append, backR]; rw [ih t s r w (by simpa using h)]
theorem back_tp (U : List OpD) (r t w : List UInt64) : backR U (tpR U r t) (runR U r) w = (r, backA U r w) := by
  unfold tpR
  rw [backR_more U _ _ _ _ (by rw [tapeR_length]; exact Nat.le_refl _), backR_tape]

/-! ### The machine's steps back -/
theorem trRB_all {b : List UInt64 → List Tk} {o : Nat} {op : OpD} {tot : Int} {st : List UInt64} {P : Tk → Prop} (N : Nat) (hb : ∀ k : Nat, ∀ x ∈ b (st ++ [UInt64.ofNat (k + 1)]), P x) (he : ∀ k : Nat, k < N → P ⟨o, st ++ [UInt64.ofNat (k + 1)], op, tot⟩) : ∀ k, k ≤ N → ∀ x ∈ trRB b o op tot st k, P x := by
  intro k
  induction k with
  | zero => intro _ x hx; cases hx
  | succ k ih =>
    intro hk x hx
    unfold trRB at hx
    rcases List.mem_append.1 hx with hx | hx
    · exact hb k x hx
    · rcases List.mem_cons.1 hx with rfl | hx
      · exact he k (by omega)
      · exact ih (by omega) x hx
theorem Fo.trB_pos (f : Fo) (hf : f.ok) : ∀ (o : Nat) (st : List UInt64), ∀ x ∈ f.trB o st, x.op.kind = 7 → 1 ≤ (x.st.getLast?.getD 0).toNat := by
  induction f with
  | nil => intro o st x hx; cases hx
  | leaf op r ih =>
    intro o st x hx h0
    obtain ⟨h1, h2, h3⟩ := hf
    rcases List.mem_append.1 hx with hx | hx
    · exact ih h3 _ _ x hx h0
    · simp only [List.mem_singleton] at hx
      subst hx
      simp at h0; omega
  | rep op b fin r ihb ihr =>
    intro o st x hx h0
    obtain ⟨h1, h2, h3, h4⟩ := hf
    rcases List.mem_append.1 hx with hx | hx
    · exact ihr h4 _ _ x hx h0
    · rcases List.mem_cons.1 hx with rfl | hx
      · simp [h3] at h0
      · refine trRB_all (P := fun x => x.op.kind = 7 → 1 ≤ (x.st.getLast?.getD 0).toNat) op.v.toNat (fun k y hy => ihb h2 _ _ y hy) (fun k hk _ => ?_) _ (Nat.le_refl _) x hx h0
        have := op.v.toNat_lt
        simp only [List.getLast?_append, List.getLast?_singleton, Option.some_or, Option.getD_some]
        rw [toNat_ofNat' (by omega)]
        omega
def Fo.stepsB (f : Fo) : List Tk := f.bare.trB 0 []
theorem Good.chnB {regs : Int} {f : Fo} (g : Good regs f) : ChnB (f.bare.code 0) (((f.bare.code 0).length : Int) - 1, []) f.stepsB (-1, []) := by
  have := f.bare.trB_chn (f.bare_ok g.ok) f.bare_full (f.bare.code 0) [] [] 0 [] (by simp) rfl
  rw [Fo.code_length]
  simpa [Fo.stepsB] using this
theorem Good.tkB {regs : Int} {f : Fo} (g : Good regs f) : ∀ x ∈ f.stepsB, TkB (f.bare.code 0).length 8 f.bare.flat x := by
  have := f.bare.trB_tk (f.bare_ok g.ok) 0 8 [] (by simpa using Nat.le_trans f.bare_dp g.deep)
  rw [Fo.code_length]
  simpa [Fo.stepsB] using this
theorem Good.tkB_pos {regs : Int} {f : Fo} (g : Good regs f) : ∀ x ∈ f.stepsB, x.op.kind = 7 → 1 ≤ (x.st.getLast?.getD 0).toNat := f.bare.trB_pos (f.bare_ok g.ok) 0 []
theorem Good.stepsB_ops {regs : Int} {f : Fo} (g : Good regs f) : wrs (f.stepsB.map (·.op)) = f.unroll.reverse := by
  unfold Fo.stepsB
  rw [Fo.trB_wrs _ (f.bare_ok g.ok), Fo.bare_unroll]
theorem Good.tkB_in {regs : Int} {f : Fo} (g : Good regs f) : ∀ x ∈ f.stepsB, 1 ≤ x.op.kind → x.op.kind ≤ 6 → InR regs x.op := fun x hx h1 h2 => g.inF x.op (f.bare_mem _ (g.tkB x hx).2.2.2.2.1) h1 h2
end Go.Proofs.YtcamcnahkdiefaaGreat
