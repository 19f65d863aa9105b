/- Sums of both sides; what no sum, product, negative or derivative is. -/
import Derived.Test.YtcamcnahkdiefaaPu
namespace Go.Proofs.Ytcamcnahkdiefaa
set_option linter.unusedVariables false
set_option linter.unusedSimpArgs false
open Go.RowKit
theorem three_boxes (w : World) (T1 T2 T3 : TypeId) (c1 c2 c3 : Array Value) : Blk (((w.alloc (.cells c1 T1)).alloc (.cells c2 T2)).alloc (.cells c3 T3)) w.heap.size T1 c1 ∧ Blk (((w.alloc (.cells c1 T1)).alloc (.cells c2 T2)).alloc (.cells c3 T3)) (w.heap.size + 1) T2 c2 ∧
    Blk (((w.alloc (.cells c1 T1)).alloc (.cells c2 T2)).alloc (.cells c3 T3)) (w.heap.size + 1 + 1) T3 c3 ∧ Below w.heap.size w (((w.alloc (.cells c1 T1)).alloc (.cells c2 T2)).alloc (.cells c3 T3)) ∧ (((w.alloc (.cells c1 T1)).alloc (.cells c2 T2)).alloc (.cells c3 T3)).heap.size = w.heap.size + 1 + 1 + 1 := by
  have h1 := Blk.new w T1 c1
  have h2 := Blk.new (w.alloc (.cells c1 T1)) T2 c2
  have h3 := Blk.new ((w.alloc (.cells c1 T1)).alloc (.cells c2 T2)) T3 c3
  rw [World.size_alloc] at h2
  rw [World.size_alloc, World.size_alloc] at h3
  exact ⟨(h1.alloc _).alloc _, h2.alloc _, h3, ((below_box w _).alloc (by simp) _).alloc (by simp; omega) _, by simp⟩
theorem two_boxes (w : World) (T1 T2 : TypeId) (c1 c2 : Array Value) : Blk ((w.alloc (.cells c1 T1)).alloc (.cells c2 T2)) w.heap.size T1 c1 ∧ Blk ((w.alloc (.cells c1 T1)).alloc (.cells c2 T2)) (w.heap.size + 1) T2 c2 ∧
    Below w.heap.size w ((w.alloc (.cells c1 T1)).alloc (.cells c2 T2)) ∧ ((w.alloc (.cells c1 T1)).alloc (.cells c2 T2)).heap.size = w.heap.size + 1 + 1 := by
  have h1 := Blk.new w T1 c1
  have h2 := Blk.new (w.alloc (.cells c1 T1)) T2 c2
  rw [World.size_alloc] at h2
  exact ⟨h1.alloc _, h2, (below_box w _).alloc (by simp) _, by simp⟩
/-- may two be reckoned with? -/
def addOk (va : Int) (A : List Tm) (vb : Int) (B : List Tm) : Bool := checkP va A && checkP vb B && decide (va = vb)
def drvOk (va : Int) (A : List Tm) (i : Int) : Bool := checkP va A && decide (0 ≤ i) && decide (i < va)
/-- what comes of terms, if they may be -/
def resE (ok : Bool) (vars : Int) (l : List Tm) : Int := if ok = true then mkE vars l else 2
def resV (ok : Bool) (vars : Int) (l : List Tm) : Int := if ok = true then mkV vars l else 0
def resL (ok : Bool) (vars : Int) (l : List Tm) : List Tm := if ok = true then mkL vars l else []
theorem OkP.right {vars : Int} {n : Nat} {ts : List Tm} (h : OkP vars n ts) : rightL vars ts = true := List.all_eq_true.2 h.rt
theorem OkP.range {vars : Int} {n : Nat} {ts : List Tm} (h : OkP vars n ts) : ¬ (vars < 0 ∨ 64 < vars) := by have := h.v; have := h.n64; omega
theorem rightL_app {vars : Int} {a b : List Tm} (ha : rightL vars a = true) (hb : rightL vars b = true) : rightL vars (a ++ b) = true := by
  unfold rightL at *; rw [List.all_append, ha, hb]; rfl
theorem rightL_merge {vars : Int} {a b : List Tm} (ha : rightL vars a = true) (hb : rightL vars b = true) : rightL vars (mergeT a b) = true := by
  refine List.all_eq_true.2 fun t ht => ?_
  obtain ⟨_, s, hs, e⟩ := mem_merge a b t ht
  rw [← e]
  exact List.all_eq_true.1 (rightL_app ha hb) s hs
theorem mk_merge {vars : Int} {n m : Nat} {a b : List Tm} (ha : OkP vars n a) (hb : OkP vars m b) : mkE vars (mergeT a b) = mkE vars (a ++ b) ∧ mkV vars (mergeT a b) = mkV vars (a ++ b) ∧ mkL vars (mergeT a b) = mkL vars (a ++ b) := by
  have hnm : n = m := by have := ha.v; have := hb.v; omega
  subst hnm
  have e : mkE vars (mergeT a b) = mkE vars (a ++ b) := by
    unfold mkE
    rw [rightL_merge ha.right hb.right, rightL_app ha.right hb.right, sort_merge ha.can hb.can]
  exact ⟨e, by unfold mkV; rw [e], by unfold mkL; rw [e, sort_merge ha.can hb.can]⟩
set_option maxRecDepth 100000 in
set_option maxHeartbeats 3200000 in
theorem PAdd_bad (P Q : Nat → Prop) (va vb : Int) (a b : Option Addr) (n c m d : Nat) (A B : List Tm) (w : World) (h : TOut P w a n c A) (h' : TOut Q w b m d B) (hl : n ≤ 1000000) (hl' : m ≤ 1000000) (hll : ∀ t ∈ A, t.2.length ≤ 1000000) (hll' : ∀ t ∈ B, t.2.length ≤ 1000000) (hok : addOk va A vb B = false) :
    Calls Try.prog 23 #[.agg #[.int .i64 va, .slice a n c], .agg #[.int .i64 vb, .slice b m d]] w (PolyOut 0 [] 2 w) := by
  obtain ⟨hX1, hX2, hX3, hb0, hz0⟩ := three_boxes w 24 24 24 #[.int .i64 va, .slice a n c] #[.int .i64 vb, .slice b m d] #[.int .i64 0, .slice none 0 0]
  obtain ⟨W0, hW0⟩ : ∃ W0, ((w.alloc (.cells #[.int .i64 va, .slice a n c] 24)).alloc (.cells #[.int .i64 vb, .slice b m d] 24)).alloc (.cells #[.int .i64 0, .slice none 0 0] 24) = W0 := ⟨_, rfl⟩
  rw [hW0] at hX1 hX2 hX3 hb0 hz0
  obtain ⟨QA, hQA⟩ : ∃ Q, checkP va A = Q := ⟨_, rfl⟩
  obtain ⟨QB, hQB⟩ : ∃ Q, checkP vb B = Q := ⟨_, rfl⟩
  unfold addOk at hok
  rw [hQA, hQB] at hok
  have HCA := hide (Check_calls va a n c A h.len W0 (h.at_.at_.belowN hb0) hl hll QA hQA)
  have HCB := hide (fun (W : World) (k : Below W0.heap.size W0 W) => Check_calls vb b m d B h'.len W ((h'.at_.at_.belowN hb0).belowN k) hl' hll' QB hQB)
  obtain ⟨p0, p1, p2, p3⟩ := hX1.c2
  obtain ⟨q0, q1, q2, q3⟩ := hX2.c2
  have HW0 := hide hW0
  clear hQA hQB h h' hll hll' hW0
  cases QA with
  | false =>
    go_enter Try.func23, Try.ntmps23
    go_wp2_with (go_at_call 21; go_must ((rw [HW0.out]); (with_reducible refine (HCA.out).mono ?_); rintro v w1 ⟨rfl, hb1⟩; have hX5 := hX3.belowN hb1; obtain ⟨x0, x1, x2, x3⟩ := hX5.c2))
    have hF6 := (hX5.set_ 0 (.int .i64 0)).set_ 1 (.slice none 0 0)
    refine bodyPost_ret (results_rowP rfl _ _ (w.heap.size + 1 + 1) _ #[.int .i64 0, .slice none 0 0] (0, 0) _ rfl hF6 Try.underlying24 rfl (by kernel_rfl)) rfl ?_
    have hB5 := hb0.trans (hb1.mono hb0.size)
    exact PolyOut.bad _ _ _ ((hB5.setCell (p := ⟨w.heap.size + 1 + 1, 0, none⟩) (by show _ ≤ w.heap.size + 1 + 1; omega) (.int .i64 0)).setCell (p := ⟨w.heap.size + 1 + 1, 1, none⟩) (by show _ ≤ w.heap.size + 1 + 1; omega) (.slice none 0 0))
  | true =>
    cases QB with
    | false =>
      go_enter Try.func23, Try.ntmps23
      go_wp2_with (first
        | (have hgd := hb1; go_at_call 21; go_must ((with_reducible refine (HCB.out _ hb1).mono ?_); rintro v w2 ⟨rfl, hb2⟩; have hB2 := hb1.trans (hb2.mono hb1.size); have hX5 := hX3.belowN hB2; obtain ⟨x0, x1, x2, x3⟩ := hX5.c2))
        | (go_at_call 21; go_must ((rw [HW0.out]); (with_reducible refine (HCA.out).mono ?_); rintro v w1 ⟨rfl, hb1⟩; obtain ⟨s0, s1, s2, s3⟩ := (hX2.belowN hb1).c2)))
      have hF6 := (hX5.set_ 0 (.int .i64 0)).set_ 1 (.slice none 0 0)
      refine bodyPost_ret (results_rowP rfl _ _ (w.heap.size + 1 + 1) _ #[.int .i64 0, .slice none 0 0] (0, 0) _ rfl hF6 Try.underlying24 rfl (by kernel_rfl)) rfl ?_
      have hB5 := hb0.trans (hB2.mono hb0.size)
      exact PolyOut.bad _ _ _ ((hB5.setCell (p := ⟨w.heap.size + 1 + 1, 0, none⟩) (by show _ ≤ w.heap.size + 1 + 1; omega) (.int .i64 0)).setCell (p := ⟨w.heap.size + 1 + 1, 1, none⟩) (by show _ ≤ w.heap.size + 1 + 1; omega) (.slice none 0 0))
    | true =>
      have hne : va ≠ vb := by
        intro e
        rw [e] at hok; simp at hok
      have e1 : (va != vb) = true := by simpa using hne
      have e2 : (va == vb) = false := by simpa using hne
      clear hne
      go_enter Try.func23, Try.ntmps23
      go_wp2_with (first
        | (have hgd := hb1; go_at_call 21; go_must ((with_reducible refine (HCB.out _ hb1).mono ?_); rintro v w2 ⟨rfl, hb2⟩; have hB2 := hb1.trans (hb2.mono hb1.size); have hX5 := hX3.belowN hB2; obtain ⟨x0, x1, x2, x3⟩ := hX5.c2; obtain ⟨r0, r1, r2, r3⟩ := (hX1.belowN hB2).c2; obtain ⟨s0, s1, s2, s3⟩ := (hX2.belowN hB2).c2))
        | (go_at_call 21; go_must ((rw [HW0.out]); (with_reducible refine (HCA.out).mono ?_); rintro v w1 ⟨rfl, hb1⟩; obtain ⟨s0, s1, s2, s3⟩ := (hX2.belowN hb1).c2)))
      have hF6 := (hX5.set_ 0 (.int .i64 0)).set_ 1 (.slice none 0 0)
      refine bodyPost_ret (results_rowP rfl _ _ (w.heap.size + 1 + 1) _ #[.int .i64 0, .slice none 0 0] (0, 0) _ rfl hF6 Try.underlying24 rfl (by kernel_rfl)) rfl ?_
      have hB5 := hb0.trans (hB2.mono hb0.size)
      exact PolyOut.bad _ _ _ ((hB5.setCell (p := ⟨w.heap.size + 1 + 1, 0, none⟩) (by show _ ≤ w.heap.size + 1 + 1; omega) (.int .i64 0)).setCell (p := ⟨w.heap.size + 1 + 1, 1, none⟩) (by show _ ≤ w.heap.size + 1 + 1; omega) (.slice none 0 0))
set_option maxRecDepth 100000 in
set_option maxHeartbeats 3200000 in
theorem RAdd_bad (P Q : Nat → Prop) (va vb : Int) (a b : Option Addr) (n c m d : Nat) (A B : List Tm) (w : World) (h : TOut P w a n c A) (h' : TOut Q w b m d B) (hl : n ≤ 1000000) (hl' : m ≤ 1000000) (hll : ∀ t ∈ A, t.2.length ≤ 1000000) (hll' : ∀ t ∈ B, t.2.length ≤ 1000000) (hok : addOk va A vb B = false) :
    Calls Try.prog 28 #[.agg #[.int .i64 va, .slice a n c], .agg #[.int .i64 vb, .slice b m d]] w (PolyOut 0 [] 2 w) := by
  obtain ⟨hX1, hX2, hX3, hb0, hz0⟩ := three_boxes w 24 24 24 #[.int .i64 va, .slice a n c] #[.int .i64 vb, .slice b m d] #[.int .i64 0, .slice none 0 0]
  obtain ⟨W0, hW0⟩ : ∃ W0, ((w.alloc (.cells #[.int .i64 va, .slice a n c] 24)).alloc (.cells #[.int .i64 vb, .slice b m d] 24)).alloc (.cells #[.int .i64 0, .slice none 0 0] 24) = W0 := ⟨_, rfl⟩
  rw [hW0] at hX1 hX2 hX3 hb0 hz0
  obtain ⟨QA, hQA⟩ : ∃ Q, checkP va A = Q := ⟨_, rfl⟩
  obtain ⟨QB, hQB⟩ : ∃ Q, checkP vb B = Q := ⟨_, rfl⟩
  unfold addOk at hok
  rw [hQA, hQB] at hok
  have HCA := hide (RCheck_calls va a n c A h.len W0 (h.at_.at_.belowN hb0) hl hll QA hQA)
  have HCB := hide (fun (W : World) (k : Below W0.heap.size W0 W) => RCheck_calls vb b m d B h'.len W ((h'.at_.at_.belowN hb0).belowN k) hl' hll' QB hQB)
  obtain ⟨p0, p1, p2, p3⟩ := hX1.c2
  obtain ⟨q0, q1, q2, q3⟩ := hX2.c2
  have HW0 := hide hW0
  clear hQA hQB h h' hll hll' hW0
  cases QA with
  | false =>
    go_enter Try.func28, Try.ntmps28
    go_wp2_with (go_at_call 22; go_must ((rw [HW0.out]); (with_reducible refine (HCA.out).mono ?_); rintro v w1 ⟨rfl, hb1⟩; have hX5 := hX3.belowN hb1; obtain ⟨x0, x1, x2, x3⟩ := hX5.c2))
    have hF6 := (hX5.set_ 0 (.int .i64 0)).set_ 1 (.slice none 0 0)
    refine bodyPost_ret (results_rowP rfl _ _ (w.heap.size + 1 + 1) _ #[.int .i64 0, .slice none 0 0] (0, 0) _ rfl hF6 Try.underlying24 rfl (by kernel_rfl)) rfl ?_
    have hB5 := hb0.trans (hb1.mono hb0.size)
    exact PolyOut.bad _ _ _ ((hB5.setCell (p := ⟨w.heap.size + 1 + 1, 0, none⟩) (by show _ ≤ w.heap.size + 1 + 1; omega) (.int .i64 0)).setCell (p := ⟨w.heap.size + 1 + 1, 1, none⟩) (by show _ ≤ w.heap.size + 1 + 1; omega) (.slice none 0 0))
  | true =>
    cases QB with
    | false =>
      go_enter Try.func28, Try.ntmps28
      go_wp2_with (first
        | (have hgd := hb1; go_at_call 22; go_must ((with_reducible refine (HCB.out _ hb1).mono ?_); rintro v w2 ⟨rfl, hb2⟩; have hB2 := hb1.trans (hb2.mono hb1.size); have hX5 := hX3.belowN hB2; obtain ⟨x0, x1, x2, x3⟩ := hX5.c2))
        | (go_at_call 22; go_must ((rw [HW0.out]); (with_reducible refine (HCA.out).mono ?_); rintro v w1 ⟨rfl, hb1⟩; obtain ⟨s0, s1, s2, s3⟩ := (hX2.belowN hb1).c2)))
      have hF6 := (hX5.set_ 0 (.int .i64 0)).set_ 1 (.slice none 0 0)
      refine bodyPost_ret (results_rowP rfl _ _ (w.heap.size + 1 + 1) _ #[.int .i64 0, .slice none 0 0] (0, 0) _ rfl hF6 Try.underlying24 rfl (by kernel_rfl)) rfl ?_
      have hB5 := hb0.trans (hB2.mono hb0.size)
      exact PolyOut.bad _ _ _ ((hB5.setCell (p := ⟨w.heap.size + 1 + 1, 0, none⟩) (by show _ ≤ w.heap.size + 1 + 1; omega) (.int .i64 0)).setCell (p := ⟨w.heap.size + 1 + 1, 1, none⟩) (by show _ ≤ w.heap.size + 1 + 1; omega) (.slice none 0 0))
    | true =>
      have hne : va ≠ vb := by
        intro e
        rw [e] at hok; simp at hok
      have e1 : (va != vb) = true := by simpa using hne
      have e2 : (va == vb) = false := by simpa using hne
      clear hne
      go_enter Try.func28, Try.ntmps28
      go_wp2_with (first
        | (have hgd := hb1; go_at_call 22; go_must ((with_reducible refine (HCB.out _ hb1).mono ?_); rintro v w2 ⟨rfl, hb2⟩; have hB2 := hb1.trans (hb2.mono hb1.size); have hX5 := hX3.belowN hB2; obtain ⟨x0, x1, x2, x3⟩ := hX5.c2; obtain ⟨r0, r1, r2, r3⟩ := (hX1.belowN hB2).c2; obtain ⟨s0, s1, s2, s3⟩ := (hX2.belowN hB2).c2))
        | (go_at_call 22; go_must ((rw [HW0.out]); (with_reducible refine (HCA.out).mono ?_); rintro v w1 ⟨rfl, hb1⟩; obtain ⟨s0, s1, s2, s3⟩ := (hX2.belowN hb1).c2)))
      have hF6 := (hX5.set_ 0 (.int .i64 0)).set_ 1 (.slice none 0 0)
      refine bodyPost_ret (results_rowP rfl _ _ (w.heap.size + 1 + 1) _ #[.int .i64 0, .slice none 0 0] (0, 0) _ rfl hF6 Try.underlying24 rfl (by kernel_rfl)) rfl ?_
      have hB5 := hb0.trans (hB2.mono hb0.size)
      exact PolyOut.bad _ _ _ ((hB5.setCell (p := ⟨w.heap.size + 1 + 1, 0, none⟩) (by show _ ≤ w.heap.size + 1 + 1; omega) (.int .i64 0)).setCell (p := ⟨w.heap.size + 1 + 1, 1, none⟩) (by show _ ≤ w.heap.size + 1 + 1; omega) (.slice none 0 0))
set_option maxRecDepth 100000 in
set_option maxHeartbeats 3200000 in
theorem PMul_bad (P Q : Nat → Prop) (va vb : Int) (a b : Option Addr) (n c m d : Nat) (A B : List Tm) (w : World) (h : TOut P w a n c A) (h' : TOut Q w b m d B) (hl : n ≤ 1000000) (hl' : m ≤ 1000000) (hll : ∀ t ∈ A, t.2.length ≤ 1000000) (hll' : ∀ t ∈ B, t.2.length ≤ 1000000) (hok : addOk va A vb B = false) :
    Calls Try.prog 24 #[.agg #[.int .i64 va, .slice a n c], .agg #[.int .i64 vb, .slice b m d]] w (PolyOut 0 [] 2 w) := by
  obtain ⟨hX1, hX2, hX3, hb0, hz0⟩ := three_boxes w 24 24 24 #[.int .i64 va, .slice a n c] #[.int .i64 vb, .slice b m d] #[.int .i64 0, .slice none 0 0]
  obtain ⟨W0, hW0⟩ : ∃ W0, ((w.alloc (.cells #[.int .i64 va, .slice a n c] 24)).alloc (.cells #[.int .i64 vb, .slice b m d] 24)).alloc (.cells #[.int .i64 0, .slice none 0 0] 24) = W0 := ⟨_, rfl⟩
  rw [hW0] at hX1 hX2 hX3 hb0 hz0
  obtain ⟨QA, hQA⟩ : ∃ Q, checkP va A = Q := ⟨_, rfl⟩
  obtain ⟨QB, hQB⟩ : ∃ Q, checkP vb B = Q := ⟨_, rfl⟩
  unfold addOk at hok
  rw [hQA, hQB] at hok
  have HCA := hide (Check_calls va a n c A h.len W0 (h.at_.at_.belowN hb0) hl hll QA hQA)
  have HCB := hide (fun (W : World) (k : Below W0.heap.size W0 W) => Check_calls vb b m d B h'.len W ((h'.at_.at_.belowN hb0).belowN k) hl' hll' QB hQB)
  obtain ⟨p0, p1, p2, p3⟩ := hX1.c2
  obtain ⟨q0, q1, q2, q3⟩ := hX2.c2
  have HW0 := hide hW0
  clear hQA hQB h h' hll hll' hW0
  cases QA with
  | false =>
    go_enter Try.func24, Try.ntmps24
    go_wp2_with (go_at_call 21; go_must ((rw [HW0.out]); (with_reducible refine (HCA.out).mono ?_); rintro v w1 ⟨rfl, hb1⟩; have hX5 := hX3.belowN hb1; obtain ⟨x0, x1, x2, x3⟩ := hX5.c2))
    have hF6 := (hX5.set_ 0 (.int .i64 0)).set_ 1 (.slice none 0 0)
    refine bodyPost_ret (results_rowP rfl _ _ (w.heap.size + 1 + 1) _ #[.int .i64 0, .slice none 0 0] (0, 0) _ rfl hF6 Try.underlying24 rfl (by kernel_rfl)) rfl ?_
    have hB5 := hb0.trans (hb1.mono hb0.size)
    exact PolyOut.bad _ _ _ ((hB5.setCell (p := ⟨w.heap.size + 1 + 1, 0, none⟩) (by show _ ≤ w.heap.size + 1 + 1; omega) (.int .i64 0)).setCell (p := ⟨w.heap.size + 1 + 1, 1, none⟩) (by show _ ≤ w.heap.size + 1 + 1; omega) (.slice none 0 0))
  | true =>
    cases QB with
    | false =>
      go_enter Try.func24, Try.ntmps24
      go_wp2_with (first
        | (have hgd := hb1; go_at_call 21; go_must ((with_reducible refine (HCB.out _ hb1).mono ?_); rintro v w2 ⟨rfl, hb2⟩; have hB2 := hb1.trans (hb2.mono hb1.size); have hX5 := hX3.belowN hB2; obtain ⟨x0, x1, x2, x3⟩ := hX5.c2))
        | (go_at_call 21; go_must ((rw [HW0.out]); (with_reducible refine (HCA.out).mono ?_); rintro v w1 ⟨rfl, hb1⟩; obtain ⟨s0, s1, s2, s3⟩ := (hX2.belowN hb1).c2)))
      have hF6 := (hX5.set_ 0 (.int .i64 0)).set_ 1 (.slice none 0 0)
      refine bodyPost_ret (results_rowP rfl _ _ (w.heap.size + 1 + 1) _ #[.int .i64 0, .slice none 0 0] (0, 0) _ rfl hF6 Try.underlying24 rfl (by kernel_rfl)) rfl ?_
      have hB5 := hb0.trans (hB2.mono hb0.size)
      exact PolyOut.bad _ _ _ ((hB5.setCell (p := ⟨w.heap.size + 1 + 1, 0, none⟩) (by show _ ≤ w.heap.size + 1 + 1; omega) (.int .i64 0)).setCell (p := ⟨w.heap.size + 1 + 1, 1, none⟩) (by show _ ≤ w.heap.size + 1 + 1; omega) (.slice none 0 0))
    | true =>
      have hne : va ≠ vb := by
        intro e
        rw [e] at hok; simp at hok
      have e1 : (va != vb) = true := by simpa using hne
      have e2 : (va == vb) = false := by simpa using hne
      clear hne
      go_enter Try.func24, Try.ntmps24
      go_wp2_with (first
        | (have hgd := hb1; go_at_call 21; go_must ((with_reducible refine (HCB.out _ hb1).mono ?_); rintro v w2 ⟨rfl, hb2⟩; have hB2 := hb1.trans (hb2.mono hb1.size); have hX5 := hX3.belowN hB2; obtain ⟨x0, x1, x2, x3⟩ := hX5.c2; obtain ⟨r0, r1, r2, r3⟩ := (hX1.belowN hB2).c2; obtain ⟨s0, s1, s2, s3⟩ := (hX2.belowN hB2).c2))
        | (go_at_call 21; go_must ((rw [HW0.out]); (with_reducible refine (HCA.out).mono ?_); rintro v w1 ⟨rfl, hb1⟩; obtain ⟨s0, s1, s2, s3⟩ := (hX2.belowN hb1).c2)))
      have hF6 := (hX5.set_ 0 (.int .i64 0)).set_ 1 (.slice none 0 0)
      refine bodyPost_ret (results_rowP rfl _ _ (w.heap.size + 1 + 1) _ #[.int .i64 0, .slice none 0 0] (0, 0) _ rfl hF6 Try.underlying24 rfl (by kernel_rfl)) rfl ?_
      have hB5 := hb0.trans (hB2.mono hb0.size)
      exact PolyOut.bad _ _ _ ((hB5.setCell (p := ⟨w.heap.size + 1 + 1, 0, none⟩) (by show _ ≤ w.heap.size + 1 + 1; omega) (.int .i64 0)).setCell (p := ⟨w.heap.size + 1 + 1, 1, none⟩) (by show _ ≤ w.heap.size + 1 + 1; omega) (.slice none 0 0))
set_option maxRecDepth 100000 in
set_option maxHeartbeats 3200000 in
theorem RMul_bad (P Q : Nat → Prop) (va vb : Int) (a b : Option Addr) (n c m d : Nat) (A B : List Tm) (w : World) (h : TOut P w a n c A) (h' : TOut Q w b m d B) (hl : n ≤ 1000000) (hl' : m ≤ 1000000) (hll : ∀ t ∈ A, t.2.length ≤ 1000000) (hll' : ∀ t ∈ B, t.2.length ≤ 1000000) (hok : addOk va A vb B = false) :
    Calls Try.prog 29 #[.agg #[.int .i64 va, .slice a n c], .agg #[.int .i64 vb, .slice b m d]] w (PolyOut 0 [] 2 w) := by
  obtain ⟨hX1, hX2, hX3, hb0, hz0⟩ := three_boxes w 24 24 24 #[.int .i64 va, .slice a n c] #[.int .i64 vb, .slice b m d] #[.int .i64 0, .slice none 0 0]
  obtain ⟨W0, hW0⟩ : ∃ W0, ((w.alloc (.cells #[.int .i64 va, .slice a n c] 24)).alloc (.cells #[.int .i64 vb, .slice b m d] 24)).alloc (.cells #[.int .i64 0, .slice none 0 0] 24) = W0 := ⟨_, rfl⟩
  rw [hW0] at hX1 hX2 hX3 hb0 hz0
  obtain ⟨QA, hQA⟩ : ∃ Q, checkP va A = Q := ⟨_, rfl⟩
  obtain ⟨QB, hQB⟩ : ∃ Q, checkP vb B = Q := ⟨_, rfl⟩
  unfold addOk at hok
  rw [hQA, hQB] at hok
  have HCA := hide (RCheck_calls va a n c A h.len W0 (h.at_.at_.belowN hb0) hl hll QA hQA)
  have HCB := hide (fun (W : World) (k : Below W0.heap.size W0 W) => RCheck_calls vb b m d B h'.len W ((h'.at_.at_.belowN hb0).belowN k) hl' hll' QB hQB)
  obtain ⟨p0, p1, p2, p3⟩ := hX1.c2
  obtain ⟨q0, q1, q2, q3⟩ := hX2.c2
  have HW0 := hide hW0
  clear hQA hQB h h' hll hll' hW0
  cases QA with
  | false =>
    go_enter Try.func29, Try.ntmps29
    go_wp2_with (go_at_call 22; go_must ((rw [HW0.out]); (with_reducible refine (HCA.out).mono ?_); rintro v w1 ⟨rfl, hb1⟩; have hX5 := hX3.belowN hb1; obtain ⟨x0, x1, x2, x3⟩ := hX5.c2))
    have hF6 := (hX5.set_ 0 (.int .i64 0)).set_ 1 (.slice none 0 0)
    refine bodyPost_ret (results_rowP rfl _ _ (w.heap.size + 1 + 1) _ #[.int .i64 0, .slice none 0 0] (0, 0) _ rfl hF6 Try.underlying24 rfl (by kernel_rfl)) rfl ?_
    have hB5 := hb0.trans (hb1.mono hb0.size)
    exact PolyOut.bad _ _ _ ((hB5.setCell (p := ⟨w.heap.size + 1 + 1, 0, none⟩) (by show _ ≤ w.heap.size + 1 + 1; omega) (.int .i64 0)).setCell (p := ⟨w.heap.size + 1 + 1, 1, none⟩) (by show _ ≤ w.heap.size + 1 + 1; omega) (.slice none 0 0))
  | true =>
    cases QB with
    | false =>
      go_enter Try.func29, Try.ntmps29
      go_wp2_with (first
        | (have hgd := hb1; go_at_call 22; go_must ((with_reducible refine (HCB.out _ hb1).mono ?_); rintro v w2 ⟨rfl, hb2⟩; have hB2 := hb1.trans (hb2.mono hb1.size); have hX5 := hX3.belowN hB2; obtain ⟨x0, x1, x2, x3⟩ := hX5.c2))
        | (go_at_call 22; go_must ((rw [HW0.out]); (with_reducible refine (HCA.out).mono ?_); rintro v w1 ⟨rfl, hb1⟩; obtain ⟨s0, s1, s2, s3⟩ := (hX2.belowN hb1).c2)))
      have hF6 := (hX5.set_ 0 (.int .i64 0)).set_ 1 (.slice none 0 0)
      refine bodyPost_ret (results_rowP rfl _ _ (w.heap.size + 1 + 1) _ #[.int .i64 0, .slice none 0 0] (0, 0) _ rfl hF6 Try.underlying24 rfl (by kernel_rfl)) rfl ?_
      have hB5 := hb0.trans (hB2.mono hb0.size)
      exact PolyOut.bad _ _ _ ((hB5.setCell (p := ⟨w.heap.size + 1 + 1, 0, none⟩) (by show _ ≤ w.heap.size + 1 + 1; omega) (.int .i64 0)).setCell (p := ⟨w.heap.size + 1 + 1, 1, none⟩) (by show _ ≤ w.heap.size + 1 + 1; omega) (.slice none 0 0))
    | true =>
      have hne : va ≠ vb := by
        intro e
        rw [e] at hok; simp at hok
      have e1 : (va != vb) = true := by simpa using hne
      have e2 : (va == vb) = false := by simpa using hne
      clear hne
      go_enter Try.func29, Try.ntmps29
      go_wp2_with (first
        | (have hgd := hb1; go_at_call 22; go_must ((with_reducible refine (HCB.out _ hb1).mono ?_); rintro v w2 ⟨rfl, hb2⟩; have hB2 := hb1.trans (hb2.mono hb1.size); have hX5 := hX3.belowN hB2; obtain ⟨x0, x1, x2, x3⟩ := hX5.c2; obtain ⟨r0, r1, r2, r3⟩ := (hX1.belowN hB2).c2; obtain ⟨s0, s1, s2, s3⟩ := (hX2.belowN hB2).c2))
        | (go_at_call 22; go_must ((rw [HW0.out]); (with_reducible refine (HCA.out).mono ?_); rintro v w1 ⟨rfl, hb1⟩; obtain ⟨s0, s1, s2, s3⟩ := (hX2.belowN hb1).c2)))
      have hF6 := (hX5.set_ 0 (.int .i64 0)).set_ 1 (.slice none 0 0)
      refine bodyPost_ret (results_rowP rfl _ _ (w.heap.size + 1 + 1) _ #[.int .i64 0, .slice none 0 0] (0, 0) _ rfl hF6 Try.underlying24 rfl (by kernel_rfl)) rfl ?_
      have hB5 := hb0.trans (hB2.mono hb0.size)
      exact PolyOut.bad _ _ _ ((hB5.setCell (p := ⟨w.heap.size + 1 + 1, 0, none⟩) (by show _ ≤ w.heap.size + 1 + 1; omega) (.int .i64 0)).setCell (p := ⟨w.heap.size + 1 + 1, 1, none⟩) (by show _ ≤ w.heap.size + 1 + 1; omega) (.slice none 0 0))
end Go.Proofs.Ytcamcnahkdiefaa
