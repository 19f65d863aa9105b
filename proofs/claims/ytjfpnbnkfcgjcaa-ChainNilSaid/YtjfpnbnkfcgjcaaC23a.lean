/- Chapter 10: Pair and Dims, the program's and the document's. -/
import Derived.Test.YtjfpnbnkfcgjcaaQh
namespace Go.Proofs.Ytjfpnbnkfcgjcaa
set_option linter.unusedVariables false
set_option linter.unusedSimpArgs false
open Go.RowKit
/-- may two programs be? -/
def pairS (p q : PrD) : Int := firstS [p, q]
theorem firstL_pair (p q : PrD) : ∀ ks : List Nat, firstL [p, q] ks = 0 → firstL [p] ks = 0 ∧ firstL [q] ks = 0 := by
  intro ks
  induction ks with
  | nil => intro _; exact ⟨rfl, rfl⟩
  | cons k ks ih =>
    intro h
    simp only [firstL, rowE] at h ⊢
    by_cases h1 : errI k p = 0
    · by_cases h2 : errI k q = 0
      · simp only [h1, h2, ne_eq, not_true_eq_false, if_false] at h ⊢; exact ih h
      · simp only [h1, ne_eq, not_true_eq_false, if_false, h2, not_false_eq_true, if_true] at h
    · simp only [ne_eq, h1, not_false_eq_true, if_true] at h
theorem pairS_ok {p q : PrD} (h : pairS p q = 0) : checkS p.regs p.l = 0 ∧ checkS q.regs q.l = 0 := by
  obtain ⟨h1, h2⟩ := firstL_pair p q _ h
  exact ⟨(firstS_one p).symm.trans h1, (firstS_one q).symm.trans h2⟩
/-- are there registers enough? -/
def dimsC (r1 r2 x t : Int) : Int := if (x < 1 ∨ 64 < x ∨ t < 0 ∨ 64 < t) ∨ r1 < x + t + 1 ∨ r2 < x + t then 10 else 0
theorem Pair_calls (p q : PrD) (w : World) (h : At w p.a p.l) (hl : p.l.length ≤ 1000000) (h' : At w q.a q.l) (hl' : q.l.length ≤ 1000000) (E : Int) (hE : pairS p q = E) :
    Calls Try.prog 104 #[.agg #[.int .i64 p.regs, .slice p.a p.l.length p.c], .agg #[.int .i64 q.regs, .slice q.a q.l.length q.c]] w fun e w' => e = .returned (.int .i64 E) ∧ Below w.heap.size w w' := by
  obtain ⟨w0, hw0⟩ : ∃ w0, w0 = (w.alloc (.cells #[.int .i64 p.regs, .slice p.a p.l.length p.c] 24)).alloc (.cells #[.int .i64 q.regs, .slice q.a q.l.length q.c] 24) := ⟨_, rfl⟩
  have hb0 : Below w.heap.size w w0 := by rw [hw0]; exact ((below_new _ _).alloc (by simp) _)
  have hb : Below w.heap.size w (w0.alloc (.cells #[.int .i64 p.regs, .slice p.a p.l.length p.c, .int .i64 q.regs, .slice q.a q.l.length q.c] 182)) := hb0.alloc hb0.size _
  have hat : At (w0.alloc (.cells #[.int .i64 p.regs, .slice p.a p.l.length p.c, .int .i64 q.regs, .slice q.a q.l.length q.c] 182)) (some ⟨w0.heap.size, 0, none⟩) [p, q] :=
    At.ofBlk (g := w0.heap.size) (T := 182) (Blk.new w0 182 #[.int .i64 p.regs, .slice p.a p.l.length p.c, .int .i64 q.regs, .slice q.a q.l.length q.c]) ([p, q] : List PrD) rfl
  have hg : w0.heap.size = w.heap.size + 1 + 1 := by rw [hw0]; simp
  have HF : Calls Try.prog 111 #[.slice (some ⟨w0.heap.size, 0, none⟩) 2 2] (w0.alloc (.cells #[.int .i64 p.regs, .slice p.a p.l.length p.c, .int .i64 q.regs, .slice q.a q.l.length q.c] 182)) fun e w' => e = .returned (.int .i64 (firstS [p, q])) ∧ Below (w0.alloc (.cells #[.int .i64 p.regs, .slice p.a p.l.length p.c, .int .i64 q.regs, .slice q.a q.l.length q.c] 182)).heap.size (w0.alloc (.cells #[.int .i64 p.regs, .slice p.a p.l.length p.c, .int .i64 q.regs, .slice q.a q.l.length q.c] 182)) w' :=
    first_calls (some ⟨w0.heap.size, 0, none⟩) 2 [p, q] _ hat (by simp) (fun r hr => by
      simp at hr
      rcases hr with rfl | rfl
      · exact ⟨h.belowN hb, hl⟩
      · exact ⟨h'.belowN hb, hl'⟩)
  have e : firstS [p, q] = E := hE
  rw [e, hg] at HF
  rw [hw0] at HF hb
  have HF := hide HF
  clear e hE hat hb0 hw0 hg
  go_enter Try.func104, Try.ntmps104
  go_wp2_with (go_at_call 111; go_must ((with_reducible refine (HF.out).mono ?_); rintro e w1 ⟨rfl, hb1⟩))
  go_ret
  exact ⟨rfl, hb.trans (hb1.mono hb.size)⟩
theorem Dims_calls (p q : PrD) (x t : Int) (hx : -9223372036854775808 ≤ x ∧ x ≤ 9223372036854775807) (ht : -9223372036854775808 ≤ t ∧ t ≤ 9223372036854775807) (w : World) :
    Calls Try.prog 105 #[.agg #[.int .i64 p.regs, .slice p.a p.l.length p.c], .agg #[.int .i64 q.regs, .slice q.a q.l.length q.c], .int .i64 x, .int .i64 t] w fun e w' => e = .returned (.int .i64 (dimsC p.regs q.regs x t)) ∧ Below w.heap.size w w' := by
  have hb0 : Below w.heap.size w ((w.alloc (.cells #[.int .i64 p.regs, .slice p.a p.l.length p.c] 24)).alloc (.cells #[.int .i64 q.regs, .slice q.a q.l.length q.c] 24)) := ((below_new _ _).alloc (by simp) _)
  go_enter Try.func105, Try.ntmps105
  go_wp2_with (go_at_call 121; go_must ((with_reducible refine (fail_calls _ _ _).mono ?_); rintro e w1 ⟨rfl, rfl⟩))
  all_goals
    go_ret
    refine ⟨?_, hb0⟩
    unfold dimsC
    first
      | (rw [if_pos (by omega)] <;> rfl)
      | (rw [if_neg (by omega)] <;> rfl)
end Go.Proofs.Ytjfpnbnkfcgjcaa
