/- Chapter 23: the page's example, plain; Sum. -/
import Derived.Test.YtjfpnbnkfcgjcaaC23j
import Derived.Test.YtjfpnbnkfcgjcaaQj
namespace Go.Proofs.Ytjfpnbnkfcgjcaa
set_option linter.unusedVariables false
set_option linter.unusedSimpArgs false
open Go.RowKit
theorem firstL_zero (p : PrD) : ∀ ks : List Nat, firstL [p] ks = 0 → ∀ k ∈ ks, errI k p = 0
  | [], _, k, hk => by simp at hk
  | j :: ks, h, k, hk => by
    simp only [firstL, rowE_one] at h
    by_cases h0 : errI j p = 0
    · rw [if_neg (by simpa using h0)] at h
      rcases List.mem_cons.1 hk with rfl | hk
      · exact h0
      · exact firstL_zero p ks h k hk
    · rw [if_pos h0] at h; exact absurd h h0
theorem firstL_both {p q : PrD} : ∀ ks : List Nat, (∀ k ∈ ks, errI k p = 0 ∧ errI k q = 0) → firstL [p, q] ks = 0
  | [], _ => rfl
  | j :: ks, h => by
    obtain ⟨h1, h2⟩ := h j (by simp)
    simp only [firstL, rowE, h1, h2, ne_eq, not_true_eq_false, if_false]
    exact firstL_both ks fun k hk => h k (by simp [hk])
theorem pairS_of {p q : PrD} (hp : checkS p.regs p.l = 0) (hq : checkS q.regs q.l = 0) : pairS p q = 0 :=
  firstL_both _ fun k hk => ⟨firstL_zero p _ ((firstS_one p).trans hp) k hk, firstL_zero q _ ((firstS_one q).trans hq) k hk⟩
def exP : Fo := .leaf ⟨1, 0, 0, 2, 0⟩ .nil
def exQ : Fo := .leaf ⟨3, 0, 0, 1, 0⟩ .nil
theorem exP_good : Good 3 exP := good_of_lit (by simp [exP, Fo.ok]) (by decide)
theorem exQ_good : Good 2 exQ := good_of_lit (by simp [exQ, Fo.ok]) (by decide)
/-- the page's example, its lists where they lie -/
def ex23 (a b : Option Addr) : ChD := ⟨⟨3, a, 1, exP.flat⟩, ⟨2, b, 1, exQ.flat⟩, 1, [2]⟩
theorem ex23_ok (a b : Option Addr) : (ex23 a b).Ok := ⟨⟨exP, rfl, exP_good⟩, ⟨exQ, rfl, exQ_good⟩, by show (1 : Int) ≤ 1; decide, by show (1 : Int) ≤ 64; decide, by show 1 ≤ 64; decide, by show (1 : Int) + 1 + 1 ≤ 3; decide, by show (1 : Int) + 1 ≤ 2; decide⟩
theorem ex23_step (a b : Option Addr) (t : Nat) (ht : t < 65536) (x : UInt64) : (ex23 a b).step (t : Int) [x] = [x + UInt64.ofNat t] := by
  unfold ChD.step ChD.beg
  show (uptoS 3 exP.flat ([x] ++ [2] ++ [UInt64.ofNat (t : Int).toNat]) (-1)).take 1 = _
  rw [uptoS_good exP_good (by simp)]
  simp only [Int.toNat_natCast]
  rfl
theorem ex23_loss (a b : Option Addr) (x : UInt64) : (ex23 a b).loss [x] = x * 2 := by
  unfold ChD.loss
  show (uptoS 2 exQ.flat ([x] ++ [2]) (-1)).getD 0 0 = _
  rw [uptoS_good exQ_good (by simp)]
  rfl
theorem ex23_iter (a b : Option Addr) : (ex23 a b).iter [5] 0 = [5] ∧ (ex23 a b).iter [5] 1 = [5] ∧ (ex23 a b).iter [5] 2 = [6] ∧ (ex23 a b).iter [5] 3 = [8] := by
  have h0 : (ex23 a b).iter [5] 0 = [5] := by rw [ChD.iter]
  have h1 : (ex23 a b).iter [5] 1 = [5] := by rw [ChD.iter, h0, ex23_step a b 0 (by decide)]; rfl
  have h2 : (ex23 a b).iter [5] 2 = [6] := by rw [ChD.iter, h1, ex23_step a b 1 (by decide)]; rfl
  have h3 : (ex23 a b).iter [5] 3 = [8] := by rw [ChD.iter, h2, ex23_step a b 2 (by decide)]; rfl
  exact ⟨h0, h1, h2, h3⟩
theorem ex23_states (a b : Option Addr) : (ex23 a b).states [5] 3 = [[5], [5], [6], [8]] := by
  obtain ⟨h0, h1, h2, h3⟩ := ex23_iter a b
  show [(ex23 a b).iter [5] 0, (ex23 a b).iter [5] 1, (ex23 a b).iter [5] 2, (ex23 a b).iter [5] 3] = _
  rw [h0, h1, h2, h3]
theorem ex23_bad (a b : Option Addr) : (ex23 a b).bad = 0 := by
  unfold ChD.bad
  have hp : checkS 3 exP.flat = 0 := exP_good.check
  have hq : checkS 2 exQ.flat = 0 := exQ_good.check
  have h : pairS (ex23 a b).p (ex23 a b).q = 0 := by
    exact pairS_of hp hq
  rw [if_neg (by simpa using h)]
  show dimsC 3 2 1 1 = 0
  decide
theorem Sum_calls (w : World) : Calls Try.prog 75 #[] w fun e w' => ∃ a b ta, e = .returned (.agg #[.int .i64 3, .slice a 1 1, .int .i64 2, .slice b 1 1, .int .i64 1, .slice ta 1 1]) ∧ At w' a exP.flat ∧ At w' b exQ.flat ∧ At w' ta [(2 : UInt64)] ∧ Below w.heap.size w w' := by
  go_enter Try.func75, Try.ntmps75
  go_wp2
  have hC := (((Blk.new w 126 #[.int .i64 3, .slice (some ⟨w.heap.size + 1, 0, none⟩) 1 1, .int .i64 2, .slice (some ⟨w.heap.size + 1 + 1, 0, none⟩) 1 1, .int .i64 1, .slice (some ⟨w.heap.size + 1 + 1 + 1, 0, none⟩) 1 1]).alloc (.cells #[.int .i64 1, .int .i64 0, .int .i64 0, .int .i64 2, .int .u64 0] 59)).alloc (.cells #[.int .i64 3, .int .i64 0, .int .i64 0, .int .i64 1, .int .u64 0] 59)).alloc (.cells #[.int .u64 2] 37)
  have hP := ((Blk.new (w.alloc (.cells #[.int .i64 3, .slice (some ⟨w.heap.size + 1, 0, none⟩) 1 1, .int .i64 2, .slice (some ⟨w.heap.size + 1 + 1, 0, none⟩) 1 1, .int .i64 1, .slice (some ⟨w.heap.size + 1 + 1 + 1, 0, none⟩) 1 1] 126)) 59 #[.int .i64 1, .int .i64 0, .int .i64 0, .int .i64 2, .int .u64 0]).alloc (.cells #[.int .i64 3, .int .i64 0, .int .i64 0, .int .i64 1, .int .u64 0] 59)).alloc (.cells #[.int .u64 2] 37)
  have hQ := (Blk.new ((w.alloc (.cells #[.int .i64 3, .slice (some ⟨w.heap.size + 1, 0, none⟩) 1 1, .int .i64 2, .slice (some ⟨w.heap.size + 1 + 1, 0, none⟩) 1 1, .int .i64 1, .slice (some ⟨w.heap.size + 1 + 1 + 1, 0, none⟩) 1 1] 126)).alloc (.cells #[.int .i64 1, .int .i64 0, .int .i64 0, .int .i64 2, .int .u64 0] 59)) 59 #[.int .i64 3, .int .i64 0, .int .i64 0, .int .i64 1, .int .u64 0]).alloc (.cells #[.int .u64 2] 37)
  have hT := Blk.new (((w.alloc (.cells #[.int .i64 3, .slice (some ⟨w.heap.size + 1, 0, none⟩) 1 1, .int .i64 2, .slice (some ⟨w.heap.size + 1 + 1, 0, none⟩) 1 1, .int .i64 1, .slice (some ⟨w.heap.size + 1 + 1 + 1, 0, none⟩) 1 1] 126)).alloc (.cells #[.int .i64 1, .int .i64 0, .int .i64 0, .int .i64 2, .int .u64 0] 59)).alloc (.cells #[.int .i64 3, .int .i64 0, .int .i64 0, .int .i64 1, .int .u64 0] 59)) 37 #[.int .u64 2]
  simp only [World.size_alloc] at hP hQ hT
  have hB : Below w.heap.size w ((((w.alloc (.cells #[.int .i64 3, .slice (some ⟨w.heap.size + 1, 0, none⟩) 1 1, .int .i64 2, .slice (some ⟨w.heap.size + 1 + 1, 0, none⟩) 1 1, .int .i64 1, .slice (some ⟨w.heap.size + 1 + 1 + 1, 0, none⟩) 1 1] 126)).alloc (.cells #[.int .i64 1, .int .i64 0, .int .i64 0, .int .i64 2, .int .u64 0] 59)).alloc (.cells #[.int .i64 3, .int .i64 0, .int .i64 0, .int .i64 1, .int .u64 0] 59)).alloc (.cells #[.int .u64 2] 37)) := (((below_new _ _).alloc (by simp) _).alloc (by simp; omega) _).alloc (by simp; omega) _
  refine bodyPost_ret (results_row_one rfl _ _ w.heap.size _ #[.int .i64 3, .slice (some ⟨w.heap.size + 1, 0, none⟩) 1 1, .int .i64 2, .slice (some ⟨w.heap.size + 1 + 1, 0, none⟩) 1 1, .int .i64 1, .slice (some ⟨w.heap.size + 1 + 1 + 1, 0, none⟩) 1 1] (0, 0) _ rfl hC Try.underlying126 rfl (by kernel_rfl)) rfl ⟨_, _, _, rfl, At.ofBlk hP exP.flat rfl, At.ofBlk hQ exQ.flat rfl, At.ofBlk hT [(2 : UInt64)] rfl, hB⟩
end Go.Proofs.Ytjfpnbnkfcgjcaa
