/- Several texts of mine in one file: Sya, Syb, Syc. -/
import Derived.Test.YtcamcnahkdiefaaGreatQ4
import Derived.Test.YtcamcnahkdiefaaGreatRg2
import Derived.Test.YtcamcnahkdiefaaGreatQe
/- symbol.reckon and the document's does: what an operation makes of two polynomials. -/
namespace Go.Proofs.YtcamcnahkdiefaaGreat
set_option linter.unusedVariables false
set_option linter.unusedSimpArgs false
open Go.RowKit
theorem AtTP.grown {P : Nat → Prop} {w w' : World} {a : Option Addr} {ts : List Tm} {row : Option Nat} (h : AtTP P w a ts) (hgr : w.grownBy w' row) (hg : ∀ g, row = some g → ¬ P g) : AtTP P w' a ts := by
  obtain ⟨hs, h1, h2, h3, h4, h5⟩ := h
  cases row with
  | none => exact ⟨hs, h1.grown hgr (fun _ => .inr rfl), h2, fun j y t e1 e2 => by obtain ⟨k1, k2, k3, k4, k5⟩ := h3 j y t e1 e2; exact ⟨k1, k2, k3, k4, k5.grown hgr (fun _ => .inr rfl)⟩, h4, h5⟩
  | some g =>
    refine ⟨hs, h1.grown hgr (fun hne => ?_), h2, fun j y t e1 e2 => ?_, h4, h5⟩
    · have htn : ts ≠ [] := by rintro rfl; exact hne (List.eq_nil_of_length_eq_zero h2)
      refine .inl fun e' => hg g rfl (h4 htn g e')
    · obtain ⟨k1, k2, k3, k4, k5⟩ := h3 j y t e1 e2
      refine ⟨k1, k2, k3, k4, k5.grown hgr (fun hne => ?_)⟩
      refine .inl fun e' => hg g rfl (h5 j y t e1 e2 hne g e')
theorem AtTP.bounded {P : Nat → Prop} {w : World} {a : Option Addr} {ts : List Tm} (h : AtTP P w a ts) : AtTP (fun q => P q ∧ q < w.heap.size) w a ts := by
  obtain ⟨hs, h1, h2, h3, h4, h5⟩ := h
  refine ⟨hs, h1, h2, h3, fun hne q e => ⟨h4 hne q e, ?_⟩, fun i y t e1 e2 hne q e => ⟨h5 i y t e1 e2 hne q e, ?_⟩⟩
  · obtain ⟨b, off, e', hb⟩ := h1.lt (by rintro rfl; exact hne (List.eq_nil_of_length_eq_zero h2.symm))
    rw [e'] at e; simp at e; omega
  · obtain ⟨b, off, e', hb⟩ := (h3 i y t e1 e2).2.2.2.2.lt hne
    rw [e'] at e; simp at e; omega
theorem TOut.grown {P : Nat → Prop} {w w' : World} {a : Option Addr} {n c : Nat} {M : List Tm} {row : Option Nat} (h : TOut P w a n c M) (hgr : w.grownBy w' row) (hg : ∀ g, row = some g → ¬ P g) : TOut P w' a n c M := ⟨h.len, h.cap, h.max, h.at_.grown hgr hg⟩
theorem TOut.bounded {P : Nat → Prop} {w : World} {a : Option Addr} {n c : Nat} {M : List Tm} (h : TOut P w a n c M) : TOut (fun q => P q ∧ q < w.heap.size) w a n c M := ⟨h.len, h.cap, h.max, h.at_.bounded⟩
/-- what an operation makes of two polynomials of va variables -/
def symE (va k : Int) (v : UInt64) (A B : List Tm) : Int :=
  if k = 1 then mkE va (A ++ B) else if k = 2 then mkE va (A ++ sortT (negT B)) else if k = 3 then mulE va A B else if k = 4 then mkE va (negT A) else if k = 5 then mkE va (constT va v) else 0
/-- what an operation makes of two polynomials of va variables -/
def symV (va k : Int) (v : UInt64) (A B : List Tm) : Int :=
  if k = 1 then mkV va (A ++ B) else if k = 2 then mkV va (A ++ sortT (negT B)) else if k = 3 then mulV va A B else if k = 4 then mkV va (negT A) else if k = 5 then mkV va (constT va v) else va
/-- what an operation makes of two polynomials of va variables -/
def symL (va k : Int) (v : UInt64) (A B : List Tm) : List Tm :=
  if k = 1 then mkL va (A ++ B) else if k = 2 then mkL va (A ++ sortT (negT B)) else if k = 3 then mulL va A B else if k = 4 then mkL va (negT A) else if k = 5 then mkL va (constT va v) else A
theorem addOk_self {va : Int} {A B : List Tm} (h1 : checkP va A = true) (h2 : checkP va B = true) : addOk va A va B = true := by unfold addOk; rw [h1, h2]; simp
theorem checkP_len {va : Int} {A : List Tm} (h : checkP va A = true) : A.length ≤ 1000000 ∧ ∀ t ∈ A, t.2.length ≤ 1000000 := by
  have h' := (checkP_ok h).len6
  refine ⟨?_, h'⟩
  unfold checkP at h
  simp only [Bool.and_eq_true, decide_eq_true_eq] at h
  omega
/-- a polynomial and an error, the polynomial perhaps no new one -/
def PolyAny (P : Nat → Prop) (V : Int) (L : List Tm) (E : Int) (w : World) (e : Ending) (w' : World) : Prop :=
  ∃ a n c, e = .returned (.tuple #[.agg #[.int .i64 V, .slice a n c], .int .i64 E]) ∧ TOut (fun q => P q ∨ w.heap.size ≤ q) w' a n c L ∧ Below w.heap.size w w'
theorem PolyOut.any {V : Int} {L : List Tm} {E : Int} {w w' : World} {e : Ending} (P : Nat → Prop) (h : PolyOut V L E w e w') : PolyAny P V L E w e w' := by
  obtain ⟨a, n, c, rfl, h1, h2⟩ := h
  exact ⟨a, n, c, rfl, h1.imp fun q hq => .inr hq, h2⟩
theorem four_boxes (w : World) (T1 T2 T3 T4 : TypeId) (c1 c2 c3 c4 : Array Value) : Blk ((((w.alloc (.cells c1 T1)).alloc (.cells c2 T2)).alloc (.cells c3 T3)).alloc (.cells c4 T4)) w.heap.size T1 c1 ∧ Blk ((((w.alloc (.cells c1 T1)).alloc (.cells c2 T2)).alloc (.cells c3 T3)).alloc (.cells c4 T4)) (w.heap.size + 1) T2 c2 ∧
    Blk ((((w.alloc (.cells c1 T1)).alloc (.cells c2 T2)).alloc (.cells c3 T3)).alloc (.cells c4 T4)) (w.heap.size + 1 + 1) T3 c3 ∧ Blk ((((w.alloc (.cells c1 T1)).alloc (.cells c2 T2)).alloc (.cells c3 T3)).alloc (.cells c4 T4)) (w.heap.size + 1 + 1 + 1) T4 c4 ∧ Below w.heap.size w ((((w.alloc (.cells c1 T1)).alloc (.cells c2 T2)).alloc (.cells c3 T3)).alloc (.cells c4 T4)) ∧ ((((w.alloc (.cells c1 T1)).alloc (.cells c2 T2)).alloc (.cells c3 T3)).alloc (.cells c4 T4)).heap.size = w.heap.size + 1 + 1 + 1 + 1 := by
  obtain ⟨h1, h2, h3, hb, hz⟩ := three_boxes w T1 T2 T3 c1 c2 c3
  have h4 := Blk.new (((w.alloc (.cells c1 T1)).alloc (.cells c2 T2)).alloc (.cells c3 T3)) T4 c4
  rw [hz] at h4
  exact ⟨h1.alloc _, h2.alloc _, h3.alloc _, h4, hb.alloc (by omega) _, by simp⟩
theorem neg_facts {va : Int} {B : List Tm} (h : checkP va B = true) : mkE va (negT B) = 0 ∧ mkV va (negT B) = va ∧ mkL va (negT B) = sortT (negT B) ∧ checkP va (sortT (negT B)) = true := by
  have k := checkP_ok h
  have hr := negT_right k.right
  have hl : (sortT (negT B)).length ≤ 4096 := Nat.le_trans (sort_len _) (by rw [negT_len]; exact k.len)
  obtain ⟨e1, e2, e3⟩ := mk_of_ok k.range hr hl
  exact ⟨e1, e2, e3, check_sort k.range hr hl⟩
set_option maxRecDepth 100000 in
set_option maxHeartbeats 3200000 in
theorem Reckon_add (gb : Nat) (d0 a0 b0 : Int) (v : UInt64) (P Q : Nat → Prop) (va : Int) (a b : Option Addr) (n c m d : Nat) (A B : List Tm) (w : World) (h : TOut P w a n c A) (h' : TOut Q w b m d B) (hQA : checkP va A = true) (hQB : checkP va B = true) (V : Int) (L : List Tm) (E : Int) (hV : mkV va (A ++ B) = V) (hL : mkL va (A ++ B) = L) (hE : mkE va (A ++ B) = E) :
    Calls Tryz.prog 129 #[.pointer (some ⟨gb, 0, none⟩), .agg #[.int .i64 1, .int .i64 d0, .int .i64 a0, .int .i64 b0, .int .u64 (v.toNat : Int)], .agg #[.int .i64 va, .slice a n c], .agg #[.int .i64 va, .slice b m d]] w (PolyOut V L E w) := by
  obtain ⟨hX1, hX2, hX3, hX4, hb0, hz0⟩ := four_boxes w 89 42 42 42 #[.int .i64 1, .int .i64 d0, .int .i64 a0, .int .i64 b0, .int .u64 (v.toNat : Int)] #[.int .i64 va, .slice a n c] #[.int .i64 va, .slice b m d] #[.int .i64 0, .slice none 0 0]
  obtain ⟨W0, hW0⟩ : ∃ W0, ((((w.alloc (.cells #[.int .i64 1, .int .i64 d0, .int .i64 a0, .int .i64 b0, .int .u64 (v.toNat : Int)] 89)).alloc (.cells #[.int .i64 va, .slice a n c] 42)).alloc (.cells #[.int .i64 va, .slice b m d] 42)).alloc (.cells #[.int .i64 0, .slice none 0 0] 42)) = W0 := ⟨_, rfl⟩
  rw [hW0] at hX1 hX2 hX3 hX4 hb0 hz0
  obtain ⟨o0, o1, o2, o3, o4, o5, o6, o7, o8, o9⟩ := hX1.c5
  obtain ⟨p0, p1, p2, p3⟩ := hX2.c2
  obtain ⟨q0, q1, q2, q3⟩ := hX3.c2
  have HW0 := hide hW0
  have HA := hide (PAdd_good P Q va a b n c m d A B W0 (h.belowN hb0) (h'.belowN hb0) hQA hQB V L E hV hL hE)
  clear hW0 hQA hQB h h' hV hL hE
  go_enter Tryz.func129, Tryz.ntmps129
  go_wp2_with (go_at_call 160; go_must ((rw [HW0.out]); (with_reducible refine (HA.out).mono ?_); rintro vv w9 ⟨a9, n9, c9, rfl, hT9, hb9⟩; have hX9 := hX4.belowN hb9; obtain ⟨x0, x1, x2, x3⟩ := hX9.c2))
  have hB9 := hb0.trans (hb9.mono hb0.size)
  have hg9 : w.heap.size + 1 + 1 + 1 < W0.heap.size := by omega
  have hs9 := hb0.size
  have hF6 := (hX9.set_ 0 (.int .i64 V)).set_ 1 (.slice a9 n9 c9)
  refine bodyPost_ret (results_rowP rfl _ _ (w.heap.size + 1 + 1 + 1) _ #[.int .i64 V, .slice a9 n9 c9] (0, 0) _ rfl hF6 Tryz.underlying42 rfl (by kernel_rfl)) rfl ?_
  exact PolyOut.stored hB9 hT9 (by omega) hg9 hs9
set_option maxRecDepth 100000 in
set_option maxHeartbeats 3200000 in
theorem Reckon_sub (gb : Nat) (d0 a0 b0 : Int) (v : UInt64) (P Q : Nat → Prop) (va : Int) (a b : Option Addr) (n c m d : Nat) (A B : List Tm) (w : World) (h : TOut P w a n c A) (h' : TOut Q w b m d B) (hQA : checkP va A = true) (hQB : checkP va B = true) (V : Int) (L : List Tm) (E : Int) (hV : mkV va (A ++ sortT (negT B)) = V) (hL : mkL va (A ++ sortT (negT B)) = L) (hE : mkE va (A ++ sortT (negT B)) = E) :
    Calls Tryz.prog 129 #[.pointer (some ⟨gb, 0, none⟩), .agg #[.int .i64 2, .int .i64 d0, .int .i64 a0, .int .i64 b0, .int .u64 (v.toNat : Int)], .agg #[.int .i64 va, .slice a n c], .agg #[.int .i64 va, .slice b m d]] w (PolyOut V L E w) := by
  obtain ⟨e1, e2, e3, e4⟩ := neg_facts hQB
  obtain ⟨hX1, hX2, hX3, hX4, hb0, hz0⟩ := four_boxes w 89 42 42 42 #[.int .i64 2, .int .i64 d0, .int .i64 a0, .int .i64 b0, .int .u64 (v.toNat : Int)] #[.int .i64 va, .slice a n c] #[.int .i64 va, .slice b m d] #[.int .i64 0, .slice none 0 0]
  obtain ⟨W0, hW0⟩ : ∃ W0, ((((w.alloc (.cells #[.int .i64 2, .int .i64 d0, .int .i64 a0, .int .i64 b0, .int .u64 (v.toNat : Int)] 89)).alloc (.cells #[.int .i64 va, .slice a n c] 42)).alloc (.cells #[.int .i64 va, .slice b m d] 42)).alloc (.cells #[.int .i64 0, .slice none 0 0] 42)) = W0 := ⟨_, rfl⟩
  rw [hW0] at hX1 hX2 hX3 hX4 hb0 hz0
  obtain ⟨o0, o1, o2, o3, o4, o5, o6, o7, o8, o9⟩ := hX1.c5
  obtain ⟨p0, p1, p2, p3⟩ := hX2.c2
  obtain ⟨q0, q1, q2, q3⟩ := hX3.c2
  have HW0 := hide hW0
  obtain ⟨M, hM⟩ : ∃ M, sortT (negT B) = M := ⟨_, rfl⟩
  rw [hM] at hV hL hE e3 e4
  have HA := hide (PNeg_good Q va b m d B W0 (h'.belowN hb0) hQB va M 0 e2 e3 e1)
  have HB := hide (fun (W : World) (kk : Below W0.heap.size W0 W) (a2 : Option Addr) (n2 c2 : Nat) (kT : TOut (fun q => W0.heap.size ≤ q) W a2 n2 c2 M) => PAdd_good P (fun q => W0.heap.size ≤ q) va a a2 n c n2 c2 A M W ((h.belowN hb0).belowN kk) kT hQA e4 V L E hV hL hE)
  clear hW0 hQA hQB h h' hV hL hE hM e1 e2 e3 e4
  go_enter Tryz.func129, Tryz.ntmps129
  go_wp2_with (first
    | (go_at_call 160; go_must ((with_reducible refine (HB.out _ hb2 _ _ _ hT2).mono ?_); rintro vv w9 ⟨a9, n9, c9, rfl, hT9, hb9⟩; have hB8 := hb2.trans (hb9.mono hb2.size); have hX9 := hX4.belowN hB8; obtain ⟨x0, x1, x2, x3⟩ := hX9.c2))
    | (go_at_call 161; go_must ((rw [HW0.out]); (with_reducible refine (HA.out).mono ?_); rintro vv w1 ⟨a1, n1, c1, rfl, hT1, hb1⟩; have hb2 := hb1.alloc hb1.size (.cells #[.int .i64 va, .slice a1 n1 c1] 42); have hT2 := hT1.belowN (below_box w1 (.cells #[.int .i64 va, .slice a1 n1 c1] 42)); have hN := Blk.new w1 42 #[.int .i64 va, .slice a1 n1 c1]; obtain ⟨y0, y1, y2, y3⟩ := hN.c2; obtain ⟨p4, p5, p6, p7⟩ := (hX2.belowN hb2).c2; obtain ⟨x4, x5, x6, x7⟩ := (hX4.belowN hb2).c2; have hzz := hb1.size)))
  have hB9 := hb0.trans (hB8.mono hb0.size)
  have hg9 : w.heap.size + 1 + 1 + 1 < (w1.alloc (.cells #[.int .i64 va, .slice a1 n1 c1] 42)).heap.size := by have := hb2.size; omega
  have hs9 := Nat.le_trans hb0.size hb2.size
  have hF6 := (hX9.set_ 0 (.int .i64 V)).set_ 1 (.slice a9 n9 c9)
  refine bodyPost_ret (results_rowP rfl _ _ (w.heap.size + 1 + 1 + 1) _ #[.int .i64 V, .slice a9 n9 c9] (0, 0) _ rfl hF6 Tryz.underlying42 rfl (by kernel_rfl)) rfl ?_
  exact PolyOut.stored hB9 hT9 (by omega) hg9 hs9
set_option maxRecDepth 100000 in
set_option maxHeartbeats 3200000 in
theorem Reckon_mul (gb : Nat) (d0 a0 b0 : Int) (v : UInt64) (P Q : Nat → Prop) (va : Int) (a b : Option Addr) (n c m d : Nat) (A B : List Tm) (w : World) (h : TOut P w a n c A) (h' : TOut Q w b m d B) (hQA : checkP va A = true) (hQB : checkP va B = true) (V : Int) (L : List Tm) (E : Int) (hV : mulV va A B = V) (hL : mulL va A B = L) (hE : mulE va A B = E) :
    Calls Tryz.prog 129 #[.pointer (some ⟨gb, 0, none⟩), .agg #[.int .i64 3, .int .i64 d0, .int .i64 a0, .int .i64 b0, .int .u64 (v.toNat : Int)], .agg #[.int .i64 va, .slice a n c], .agg #[.int .i64 va, .slice b m d]] w (PolyOut V L E w) := by
  obtain ⟨hX1, hX2, hX3, hX4, hb0, hz0⟩ := four_boxes w 89 42 42 42 #[.int .i64 3, .int .i64 d0, .int .i64 a0, .int .i64 b0, .int .u64 (v.toNat : Int)] #[.int .i64 va, .slice a n c] #[.int .i64 va, .slice b m d] #[.int .i64 0, .slice none 0 0]
  obtain ⟨W0, hW0⟩ : ∃ W0, ((((w.alloc (.cells #[.int .i64 3, .int .i64 d0, .int .i64 a0, .int .i64 b0, .int .u64 (v.toNat : Int)] 89)).alloc (.cells #[.int .i64 va, .slice a n c] 42)).alloc (.cells #[.int .i64 va, .slice b m d] 42)).alloc (.cells #[.int .i64 0, .slice none 0 0] 42)) = W0 := ⟨_, rfl⟩
  rw [hW0] at hX1 hX2 hX3 hX4 hb0 hz0
  obtain ⟨o0, o1, o2, o3, o4, o5, o6, o7, o8, o9⟩ := hX1.c5
  obtain ⟨p0, p1, p2, p3⟩ := hX2.c2
  obtain ⟨q0, q1, q2, q3⟩ := hX3.c2
  have HW0 := hide hW0
  have HA := hide (PMul_good P Q va a b n c m d A B W0 (h.belowN hb0) (h'.belowN hb0) hQA hQB V L E hV hL hE)
  clear hW0 hQA hQB h h' hV hL hE
  go_enter Tryz.func129, Tryz.ntmps129
  go_wp2_with (go_at_call 162; go_must ((rw [HW0.out]); (with_reducible refine (HA.out).mono ?_); rintro vv w9 ⟨a9, n9, c9, rfl, hT9, hb9⟩; have hX9 := hX4.belowN hb9; obtain ⟨x0, x1, x2, x3⟩ := hX9.c2))
  have hB9 := hb0.trans (hb9.mono hb0.size)
  have hg9 : w.heap.size + 1 + 1 + 1 < W0.heap.size := by omega
  have hs9 := hb0.size
  have hF6 := (hX9.set_ 0 (.int .i64 V)).set_ 1 (.slice a9 n9 c9)
  refine bodyPost_ret (results_rowP rfl _ _ (w.heap.size + 1 + 1 + 1) _ #[.int .i64 V, .slice a9 n9 c9] (0, 0) _ rfl hF6 Tryz.underlying42 rfl (by kernel_rfl)) rfl ?_
  exact PolyOut.stored hB9 hT9 (by omega) hg9 hs9
set_option maxRecDepth 100000 in
set_option maxHeartbeats 3200000 in
theorem Reckon_neg (gb : Nat) (d0 a0 b0 : Int) (v : UInt64) (P Q : Nat → Prop) (va : Int) (a b : Option Addr) (n c m d : Nat) (A B : List Tm) (w : World) (h : TOut P w a n c A) (h' : TOut Q w b m d B) (hQA : checkP va A = true) (hQB : checkP va B = true) (V : Int) (L : List Tm) (E : Int) (hV : mkV va (negT A) = V) (hL : mkL va (negT A) = L) (hE : mkE va (negT A) = E) :
    Calls Tryz.prog 129 #[.pointer (some ⟨gb, 0, none⟩), .agg #[.int .i64 4, .int .i64 d0, .int .i64 a0, .int .i64 b0, .int .u64 (v.toNat : Int)], .agg #[.int .i64 va, .slice a n c], .agg #[.int .i64 va, .slice b m d]] w (PolyOut V L E w) := by
  obtain ⟨hX1, hX2, hX3, hX4, hb0, hz0⟩ := four_boxes w 89 42 42 42 #[.int .i64 4, .int .i64 d0, .int .i64 a0, .int .i64 b0, .int .u64 (v.toNat : Int)] #[.int .i64 va, .slice a n c] #[.int .i64 va, .slice b m d] #[.int .i64 0, .slice none 0 0]
  obtain ⟨W0, hW0⟩ : ∃ W0, ((((w.alloc (.cells #[.int .i64 4, .int .i64 d0, .int .i64 a0, .int .i64 b0, .int .u64 (v.toNat : Int)] 89)).alloc (.cells #[.int .i64 va, .slice a n c] 42)).alloc (.cells #[.int .i64 va, .slice b m d] 42)).alloc (.cells #[.int .i64 0, .slice none 0 0] 42)) = W0 := ⟨_, rfl⟩
  rw [hW0] at hX1 hX2 hX3 hX4 hb0 hz0
  obtain ⟨o0, o1, o2, o3, o4, o5, o6, o7, o8, o9⟩ := hX1.c5
  obtain ⟨p0, p1, p2, p3⟩ := hX2.c2
  obtain ⟨q0, q1, q2, q3⟩ := hX3.c2
  have HW0 := hide hW0
  have HA := hide (PNeg_good P va a n c A W0 (h.belowN hb0) hQA V L E hV hL hE)
  clear hW0 hQA hQB h h' hV hL hE
  go_enter Tryz.func129, Tryz.ntmps129
  go_wp2_with (go_at_call 161; go_must ((rw [HW0.out]); (with_reducible refine (HA.out).mono ?_); rintro vv w9 ⟨a9, n9, c9, rfl, hT9, hb9⟩; have hX9 := hX4.belowN hb9; obtain ⟨x0, x1, x2, x3⟩ := hX9.c2))
  have hB9 := hb0.trans (hb9.mono hb0.size)
  have hg9 : w.heap.size + 1 + 1 + 1 < W0.heap.size := by omega
  have hs9 := hb0.size
  have hF6 := (hX9.set_ 0 (.int .i64 V)).set_ 1 (.slice a9 n9 c9)
  refine bodyPost_ret (results_rowP rfl _ _ (w.heap.size + 1 + 1 + 1) _ #[.int .i64 V, .slice a9 n9 c9] (0, 0) _ rfl hF6 Tryz.underlying42 rfl (by kernel_rfl)) rfl ?_
  exact PolyOut.stored hB9 hT9 (by omega) hg9 hs9
set_option maxRecDepth 100000 in
set_option maxHeartbeats 3200000 in
theorem Reckon_con (gb : Nat) (d0 a0 b0 : Int) (v : UInt64) (P Q : Nat → Prop) (va : Int) (a b : Option Addr) (n c m d : Nat) (A B : List Tm) (w : World) (h : TOut P w a n c A) (h' : TOut Q w b m d B) (hQA : checkP va A = true) (hQB : checkP va B = true) (V : Int) (L : List Tm) (E : Int) (bm bn : Value) (hbk : Blk w gb 159 #[.int .i64 va, bm, bn]) (hV : mkV va (constT va v) = V) (hL : mkL va (constT va v) = L) (hE : mkE va (constT va v) = E) :
    Calls Tryz.prog 129 #[.pointer (some ⟨gb, 0, none⟩), .agg #[.int .i64 5, .int .i64 d0, .int .i64 a0, .int .i64 b0, .int .u64 (v.toNat : Int)], .agg #[.int .i64 va, .slice a n c], .agg #[.int .i64 va, .slice b m d]] w (PolyOut V L E w) := by
  obtain ⟨hX1, hX2, hX3, hX4, hb0, hz0⟩ := four_boxes w 89 42 42 42 #[.int .i64 5, .int .i64 d0, .int .i64 a0, .int .i64 b0, .int .u64 (v.toNat : Int)] #[.int .i64 va, .slice a n c] #[.int .i64 va, .slice b m d] #[.int .i64 0, .slice none 0 0]
  have hbk0 := hbk.belowN hb0
  have hn1 : w.heap.size + 1 + 1 + 1 ≠ gb := by have := hbk.lt; omega
  have hn2 : w.heap.size + 1 + 1 + 1 ≠ w.heap.size := by omega
  have hbk1 := hbk0
  obtain ⟨k0, k1, k2, k3, k4, k5⟩ := hbk0.c3
  obtain ⟨W0, hW0⟩ : ∃ W0, ((((w.alloc (.cells #[.int .i64 5, .int .i64 d0, .int .i64 a0, .int .i64 b0, .int .u64 (v.toNat : Int)] 89)).alloc (.cells #[.int .i64 va, .slice a n c] 42)).alloc (.cells #[.int .i64 va, .slice b m d] 42)).alloc (.cells #[.int .i64 0, .slice none 0 0] 42)) = W0 := ⟨_, rfl⟩
  rw [hW0] at hbk1 hX1 hX2 hX3 hX4 hb0 hz0
  obtain ⟨o0, o1, o2, o3, o4, o5, o6, o7, o8, o9⟩ := hX1.c5
  obtain ⟨p0, p1, p2, p3⟩ := hX2.c2
  obtain ⟨q0, q1, q2, q3⟩ := hX3.c2
  have HW0 := hide hW0
  have HA := hide (fun (W : World) => PConst_calls va v W V L E hV hL hE)
  clear hW0 hQA hQB h h' hV hL hE hbk hbk0
  go_enter Tryz.func129, Tryz.ntmps129
  go_wp2
  go_region_held3 (fun w' => w'.cell? ⟨w.heap.size, 4, none⟩ = some (.int .u64 (v.toNat : Int)) ∧ w'.cell? ⟨gb, 0, none⟩ = some (.int .i64 va)) (go_keep) (first | (go_at_call 111; go_must ((rw [HW0.out]); (with_reducible refine (HA.out W0.drew).mono ?_); rintro vv w9 ⟨a9, n9, c9, rfl, hT9, hb9x⟩; have hb9 : Below W0.heap.size W0 w9 := (Below.drew (Below.refl W0.heap.size W0)).trans hb9x; obtain ⟨r0, r1, r2, r3, r4, r5, r6, r7, r8, r9⟩ := (hX1.belowN hb9).c5; obtain ⟨l0, l1, l2, l3, l4, l5⟩ := (hbk1.belowN hb9).c3; have hX9 := hX4.belowN hb9; obtain ⟨x0, x1, x2, x3⟩ := hX9.c2)))
  go_wp2
  have hB9 := hb0.trans (hb9.mono hb0.size)
  have hg9 : w.heap.size + 1 + 1 + 1 < W0.heap.size := by omega
  have hs9 := hb0.size
  have hF6 := (hX9.set_ 0 (.int .i64 V)).set_ 1 (.slice a9 n9 c9)
  refine bodyPost_ret (results_rowP rfl _ _ (w.heap.size + 1 + 1 + 1) _ #[.int .i64 V, .slice a9 n9 c9] (0, 0) _ rfl hF6 Tryz.underlying42 rfl (by kernel_rfl)) rfl ?_
  exact PolyOut.stored hB9 hT9 (by omega) hg9 hs9
set_option maxRecDepth 100000 in
set_option maxHeartbeats 3200000 in
theorem Does15_add (gb : Nat) (d0 a0 b0 : Int) (v : UInt64) (P Q : Nat → Prop) (va : Int) (a b : Option Addr) (n c m d : Nat) (A B : List Tm) (w : World) (h : TOut P w a n c A) (h' : TOut Q w b m d B) (hQA : checkP va A = true) (hQB : checkP va B = true) (V : Int) (L : List Tm) (E : Int) (hV : mkV va (A ++ B) = V) (hL : mkL va (A ++ B) = L) (hE : mkE va (A ++ B) = E) :
    Calls Tryz.prog 92 #[.agg #[.int .i64 1, .int .i64 d0, .int .i64 a0, .int .i64 b0, .int .u64 (v.toNat : Int)], .int .i64 va, .agg #[.int .i64 va, .slice a n c], .agg #[.int .i64 va, .slice b m d]] w (PolyOut V L E w) := by
  obtain ⟨hX1, hX2, hX3, hX4, hb0, hz0⟩ := four_boxes w 89 42 42 42 #[.int .i64 1, .int .i64 d0, .int .i64 a0, .int .i64 b0, .int .u64 (v.toNat : Int)] #[.int .i64 va, .slice a n c] #[.int .i64 va, .slice b m d] #[.int .i64 0, .slice none 0 0]
  obtain ⟨W0, hW0⟩ : ∃ W0, ((((w.alloc (.cells #[.int .i64 1, .int .i64 d0, .int .i64 a0, .int .i64 b0, .int .u64 (v.toNat : Int)] 89)).alloc (.cells #[.int .i64 va, .slice a n c] 42)).alloc (.cells #[.int .i64 va, .slice b m d] 42)).alloc (.cells #[.int .i64 0, .slice none 0 0] 42)) = W0 := ⟨_, rfl⟩
  rw [hW0] at hX1 hX2 hX3 hX4 hb0 hz0
  obtain ⟨o0, o1, o2, o3, o4, o5, o6, o7, o8, o9⟩ := hX1.c5
  obtain ⟨p0, p1, p2, p3⟩ := hX2.c2
  obtain ⟨q0, q1, q2, q3⟩ := hX3.c2
  have HW0 := hide hW0
  have HA := hide (RAdd_good P Q va a b n c m d A B W0 (h.belowN hb0) (h'.belowN hb0) hQA hQB V L E hV hL hE)
  clear hW0 hQA hQB h h' hV hL hE
  go_enter Tryz.func92, Tryz.ntmps92
  go_wp2_with (go_at_call 133; go_must ((rw [HW0.out]); (with_reducible refine (HA.out).mono ?_); rintro vv w9 ⟨a9, n9, c9, rfl, hT9, hb9⟩; have hX9 := hX4.belowN hb9; obtain ⟨x0, x1, x2, x3⟩ := hX9.c2))
  have hB9 := hb0.trans (hb9.mono hb0.size)
  have hg9 : w.heap.size + 1 + 1 + 1 < W0.heap.size := by omega
  have hs9 := hb0.size
  have hF6 := (hX9.set_ 0 (.int .i64 V)).set_ 1 (.slice a9 n9 c9)
  refine bodyPost_ret (results_rowP rfl _ _ (w.heap.size + 1 + 1 + 1) _ #[.int .i64 V, .slice a9 n9 c9] (0, 0) _ rfl hF6 Tryz.underlying42 rfl (by kernel_rfl)) rfl ?_
  exact PolyOut.stored hB9 hT9 (by omega) hg9 hs9
set_option maxRecDepth 100000 in
set_option maxHeartbeats 3200000 in
theorem Does15_sub (gb : Nat) (d0 a0 b0 : Int) (v : UInt64) (P Q : Nat → Prop) (va : Int) (a b : Option Addr) (n c m d : Nat) (A B : List Tm) (w : World) (h : TOut P w a n c A) (h' : TOut Q w b m d B) (hQA : checkP va A = true) (hQB : checkP va B = true) (V : Int) (L : List Tm) (E : Int) (hV : mkV va (A ++ sortT (negT B)) = V) (hL : mkL va (A ++ sortT (negT B)) = L) (hE : mkE va (A ++ sortT (negT B)) = E) :
    Calls Tryz.prog 92 #[.agg #[.int .i64 2, .int .i64 d0, .int .i64 a0, .int .i64 b0, .int .u64 (v.toNat : Int)], .int .i64 va, .agg #[.int .i64 va, .slice a n c], .agg #[.int .i64 va, .slice b m d]] w (PolyOut V L E w) := by
  obtain ⟨e1, e2, e3, e4⟩ := neg_facts hQB
  obtain ⟨hX1, hX2, hX3, hX4, hb0, hz0⟩ := four_boxes w 89 42 42 42 #[.int .i64 2, .int .i64 d0, .int .i64 a0, .int .i64 b0, .int .u64 (v.toNat : Int)] #[.int .i64 va, .slice a n c] #[.int .i64 va, .slice b m d] #[.int .i64 0, .slice none 0 0]
  obtain ⟨W0, hW0⟩ : ∃ W0, ((((w.alloc (.cells #[.int .i64 2, .int .i64 d0, .int .i64 a0, .int .i64 b0, .int .u64 (v.toNat : Int)] 89)).alloc (.cells #[.int .i64 va, .slice a n c] 42)).alloc (.cells #[.int .i64 va, .slice b m d] 42)).alloc (.cells #[.int .i64 0, .slice none 0 0] 42)) = W0 := ⟨_, rfl⟩
  rw [hW0] at hX1 hX2 hX3 hX4 hb0 hz0
  obtain ⟨o0, o1, o2, o3, o4, o5, o6, o7, o8, o9⟩ := hX1.c5
  obtain ⟨p0, p1, p2, p3⟩ := hX2.c2
  obtain ⟨q0, q1, q2, q3⟩ := hX3.c2
  have HW0 := hide hW0
  obtain ⟨M, hM⟩ : ∃ M, sortT (negT B) = M := ⟨_, rfl⟩
  rw [hM] at hV hL hE e3 e4
  have HA := hide (RNeg3_good Q va b m d B W0 (h'.belowN hb0) hQB va M 0 e2 e3 e1)
  have HB := hide (fun (W : World) (kk : Below W0.heap.size W0 W) (a2 : Option Addr) (n2 c2 : Nat) (kT : TOut (fun q => W0.heap.size ≤ q) W a2 n2 c2 M) => RAdd_good P (fun q => W0.heap.size ≤ q) va a a2 n c n2 c2 A M W ((h.belowN hb0).belowN kk) kT hQA e4 V L E hV hL hE)
  clear hW0 hQA hQB h h' hV hL hE hM e1 e2 e3 e4
  go_enter Tryz.func92, Tryz.ntmps92
  go_wp2_with (first
    | (go_at_call 133; go_must ((with_reducible refine (HB.out _ hb2 _ _ _ hT2).mono ?_); rintro vv w9 ⟨a9, n9, c9, rfl, hT9, hb9⟩; have hB8 := hb2.trans (hb9.mono hb2.size); have hX9 := hX4.belowN hB8; obtain ⟨x0, x1, x2, x3⟩ := hX9.c2))
    | (go_at_call 134; go_must ((rw [HW0.out]); (with_reducible refine (HA.out).mono ?_); rintro vv w1 ⟨a1, n1, c1, rfl, hT1, hb1⟩; have hb2 := hb1.alloc hb1.size (.cells #[.int .i64 va, .slice a1 n1 c1] 42); have hT2 := hT1.belowN (below_box w1 (.cells #[.int .i64 va, .slice a1 n1 c1] 42)); have hN := Blk.new w1 42 #[.int .i64 va, .slice a1 n1 c1]; obtain ⟨y0, y1, y2, y3⟩ := hN.c2; obtain ⟨p4, p5, p6, p7⟩ := (hX2.belowN hb2).c2; obtain ⟨x4, x5, x6, x7⟩ := (hX4.belowN hb2).c2; have hzz := hb1.size)))
  have hB9 := hb0.trans (hB8.mono hb0.size)
  have hg9 : w.heap.size + 1 + 1 + 1 < (w1.alloc (.cells #[.int .i64 va, .slice a1 n1 c1] 42)).heap.size := by have := hb2.size; omega
  have hs9 := Nat.le_trans hb0.size hb2.size
  have hF6 := (hX9.set_ 0 (.int .i64 V)).set_ 1 (.slice a9 n9 c9)
  refine bodyPost_ret (results_rowP rfl _ _ (w.heap.size + 1 + 1 + 1) _ #[.int .i64 V, .slice a9 n9 c9] (0, 0) _ rfl hF6 Tryz.underlying42 rfl (by kernel_rfl)) rfl ?_
  exact PolyOut.stored hB9 hT9 (by omega) hg9 hs9
set_option maxRecDepth 100000 in
set_option maxHeartbeats 3200000 in
theorem Does15_mul (gb : Nat) (d0 a0 b0 : Int) (v : UInt64) (P Q : Nat → Prop) (va : Int) (a b : Option Addr) (n c m d : Nat) (A B : List Tm) (w : World) (h : TOut P w a n c A) (h' : TOut Q w b m d B) (hQA : checkP va A = true) (hQB : checkP va B = true) (V : Int) (L : List Tm) (E : Int) (hV : mulV va A B = V) (hL : mulL va A B = L) (hE : mulE va A B = E) :
    Calls Tryz.prog 92 #[.agg #[.int .i64 3, .int .i64 d0, .int .i64 a0, .int .i64 b0, .int .u64 (v.toNat : Int)], .int .i64 va, .agg #[.int .i64 va, .slice a n c], .agg #[.int .i64 va, .slice b m d]] w (PolyOut V L E w) := by
  obtain ⟨hX1, hX2, hX3, hX4, hb0, hz0⟩ := four_boxes w 89 42 42 42 #[.int .i64 3, .int .i64 d0, .int .i64 a0, .int .i64 b0, .int .u64 (v.toNat : Int)] #[.int .i64 va, .slice a n c] #[.int .i64 va, .slice b m d] #[.int .i64 0, .slice none 0 0]
  obtain ⟨W0, hW0⟩ : ∃ W0, ((((w.alloc (.cells #[.int .i64 3, .int .i64 d0, .int .i64 a0, .int .i64 b0, .int .u64 (v.toNat : Int)] 89)).alloc (.cells #[.int .i64 va, .slice a n c] 42)).alloc (.cells #[.int .i64 va, .slice b m d] 42)).alloc (.cells #[.int .i64 0, .slice none 0 0] 42)) = W0 := ⟨_, rfl⟩
  rw [hW0] at hX1 hX2 hX3 hX4 hb0 hz0
  obtain ⟨o0, o1, o2, o3, o4, o5, o6, o7, o8, o9⟩ := hX1.c5
  obtain ⟨p0, p1, p2, p3⟩ := hX2.c2
  obtain ⟨q0, q1, q2, q3⟩ := hX3.c2
  have HW0 := hide hW0
  have HA := hide (RMul3_good P Q va a b n c m d A B W0 (h.belowN hb0) (h'.belowN hb0) hQA hQB V L E hV hL hE)
  clear hW0 hQA hQB h h' hV hL hE
  go_enter Tryz.func92, Tryz.ntmps92
  go_wp2_with (go_at_call 135; go_must ((rw [HW0.out]); (with_reducible refine (HA.out).mono ?_); rintro vv w9 ⟨a9, n9, c9, rfl, hT9, hb9⟩; have hX9 := hX4.belowN hb9; obtain ⟨x0, x1, x2, x3⟩ := hX9.c2))
  have hB9 := hb0.trans (hb9.mono hb0.size)
  have hg9 : w.heap.size + 1 + 1 + 1 < W0.heap.size := by omega
  have hs9 := hb0.size
  have hF6 := (hX9.set_ 0 (.int .i64 V)).set_ 1 (.slice a9 n9 c9)
  refine bodyPost_ret (results_rowP rfl _ _ (w.heap.size + 1 + 1 + 1) _ #[.int .i64 V, .slice a9 n9 c9] (0, 0) _ rfl hF6 Tryz.underlying42 rfl (by kernel_rfl)) rfl ?_
  exact PolyOut.stored hB9 hT9 (by omega) hg9 hs9
set_option maxRecDepth 100000 in
set_option maxHeartbeats 3200000 in
theorem Does15_neg (gb : Nat) (d0 a0 b0 : Int) (v : UInt64) (P Q : Nat → Prop) (va : Int) (a b : Option Addr) (n c m d : Nat) (A B : List Tm) (w : World) (h : TOut P w a n c A) (h' : TOut Q w b m d B) (hQA : checkP va A = true) (hQB : checkP va B = true) (V : Int) (L : List Tm) (E : Int) (hV : mkV va (negT A) = V) (hL : mkL va (negT A) = L) (hE : mkE va (negT A) = E) :
    Calls Tryz.prog 92 #[.agg #[.int .i64 4, .int .i64 d0, .int .i64 a0, .int .i64 b0, .int .u64 (v.toNat : Int)], .int .i64 va, .agg #[.int .i64 va, .slice a n c], .agg #[.int .i64 va, .slice b m d]] w (PolyOut V L E w) := by
  obtain ⟨hX1, hX2, hX3, hX4, hb0, hz0⟩ := four_boxes w 89 42 42 42 #[.int .i64 4, .int .i64 d0, .int .i64 a0, .int .i64 b0, .int .u64 (v.toNat : Int)] #[.int .i64 va, .slice a n c] #[.int .i64 va, .slice b m d] #[.int .i64 0, .slice none 0 0]
  obtain ⟨W0, hW0⟩ : ∃ W0, ((((w.alloc (.cells #[.int .i64 4, .int .i64 d0, .int .i64 a0, .int .i64 b0, .int .u64 (v.toNat : Int)] 89)).alloc (.cells #[.int .i64 va, .slice a n c] 42)).alloc (.cells #[.int .i64 va, .slice b m d] 42)).alloc (.cells #[.int .i64 0, .slice none 0 0] 42)) = W0 := ⟨_, rfl⟩
  rw [hW0] at hX1 hX2 hX3 hX4 hb0 hz0
  obtain ⟨o0, o1, o2, o3, o4, o5, o6, o7, o8, o9⟩ := hX1.c5
  obtain ⟨p0, p1, p2, p3⟩ := hX2.c2
  obtain ⟨q0, q1, q2, q3⟩ := hX3.c2
  have HW0 := hide hW0
  have HA := hide (RNeg3_good P va a n c A W0 (h.belowN hb0) hQA V L E hV hL hE)
  clear hW0 hQA hQB h h' hV hL hE
  go_enter Tryz.func92, Tryz.ntmps92
  go_wp2_with (go_at_call 134; go_must ((rw [HW0.out]); (with_reducible refine (HA.out).mono ?_); rintro vv w9 ⟨a9, n9, c9, rfl, hT9, hb9⟩; have hX9 := hX4.belowN hb9; obtain ⟨x0, x1, x2, x3⟩ := hX9.c2))
  have hB9 := hb0.trans (hb9.mono hb0.size)
  have hg9 : w.heap.size + 1 + 1 + 1 < W0.heap.size := by omega
  have hs9 := hb0.size
  have hF6 := (hX9.set_ 0 (.int .i64 V)).set_ 1 (.slice a9 n9 c9)
  refine bodyPost_ret (results_rowP rfl _ _ (w.heap.size + 1 + 1 + 1) _ #[.int .i64 V, .slice a9 n9 c9] (0, 0) _ rfl hF6 Tryz.underlying42 rfl (by kernel_rfl)) rfl ?_
  exact PolyOut.stored hB9 hT9 (by omega) hg9 hs9
set_option maxRecDepth 100000 in
set_option maxHeartbeats 3200000 in
theorem Does15_con (gb : Nat) (d0 a0 b0 : Int) (v : UInt64) (P Q : Nat → Prop) (va : Int) (a b : Option Addr) (n c m d : Nat) (A B : List Tm) (w : World) (h : TOut P w a n c A) (h' : TOut Q w b m d B) (hQA : checkP va A = true) (hQB : checkP va B = true) (V : Int) (L : List Tm) (E : Int) (hV : mkV va (constT va v) = V) (hL : mkL va (constT va v) = L) (hE : mkE va (constT va v) = E) :
    Calls Tryz.prog 92 #[.agg #[.int .i64 5, .int .i64 d0, .int .i64 a0, .int .i64 b0, .int .u64 (v.toNat : Int)], .int .i64 va, .agg #[.int .i64 va, .slice a n c], .agg #[.int .i64 va, .slice b m d]] w (PolyOut V L E w) := by
  obtain ⟨hX1, hX2, hX3, hX4, hb0, hz0⟩ := four_boxes w 89 42 42 42 #[.int .i64 5, .int .i64 d0, .int .i64 a0, .int .i64 b0, .int .u64 (v.toNat : Int)] #[.int .i64 va, .slice a n c] #[.int .i64 va, .slice b m d] #[.int .i64 0, .slice none 0 0]
  obtain ⟨W0, hW0⟩ : ∃ W0, ((((w.alloc (.cells #[.int .i64 5, .int .i64 d0, .int .i64 a0, .int .i64 b0, .int .u64 (v.toNat : Int)] 89)).alloc (.cells #[.int .i64 va, .slice a n c] 42)).alloc (.cells #[.int .i64 va, .slice b m d] 42)).alloc (.cells #[.int .i64 0, .slice none 0 0] 42)) = W0 := ⟨_, rfl⟩
  rw [hW0] at hX1 hX2 hX3 hX4 hb0 hz0
  obtain ⟨o0, o1, o2, o3, o4, o5, o6, o7, o8, o9⟩ := hX1.c5
  obtain ⟨p0, p1, p2, p3⟩ := hX2.c2
  obtain ⟨q0, q1, q2, q3⟩ := hX3.c2
  have HW0 := hide hW0
  have HA := hide (RConst_calls va v W0 V L E hV hL hE)
  clear hW0 hQA hQB h h' hV hL hE
  go_enter Tryz.func92, Tryz.ntmps92
  go_wp2_with (go_at_call 113; go_must ((rw [HW0.out]); (with_reducible refine (HA.out).mono ?_); rintro vv w9 ⟨a9, n9, c9, rfl, hT9, hb9⟩; have hX9 := hX4.belowN hb9; obtain ⟨x0, x1, x2, x3⟩ := hX9.c2))
  have hB9 := hb0.trans (hb9.mono hb0.size)
  have hg9 : w.heap.size + 1 + 1 + 1 < W0.heap.size := by omega
  have hs9 := hb0.size
  have hF6 := (hX9.set_ 0 (.int .i64 V)).set_ 1 (.slice a9 n9 c9)
  refine bodyPost_ret (results_rowP rfl _ _ (w.heap.size + 1 + 1 + 1) _ #[.int .i64 V, .slice a9 n9 c9] (0, 0) _ rfl hF6 Tryz.underlying42 rfl (by kernel_rfl)) rfl ?_
  exact PolyOut.stored hB9 hT9 (by omega) hg9 hs9
end Go.Proofs.YtcamcnahkdiefaaGreat

/- What an operation makes of two polynomials, whatever its kind. -/
namespace Go.Proofs.YtcamcnahkdiefaaGreat
set_option linter.unusedVariables false
set_option linter.unusedSimpArgs false
open Go.RowKit
set_option maxRecDepth 100000 in
set_option maxHeartbeats 3200000 in
theorem Does15_cpy (d0 a0 b0 : Int) (v : UInt64) (P : Nat → Prop) (va : Int) (a b : Option Addr) (n c m d : Nat) (A : List Tm) (w : World) (h : TOut P w a n c A) :
    Calls Tryz.prog 92 #[.agg #[.int .i64 6, .int .i64 d0, .int .i64 a0, .int .i64 b0, .int .u64 (v.toNat : Int)], .int .i64 va, .agg #[.int .i64 va, .slice a n c], .agg #[.int .i64 va, .slice b m d]] w (PolyAny P va A 0 w) := by
  obtain ⟨hX1, hX2, hX3, hX4, hb0, hz0⟩ := four_boxes w 89 42 42 42 #[.int .i64 6, .int .i64 d0, .int .i64 a0, .int .i64 b0, .int .u64 (v.toNat : Int)] #[.int .i64 va, .slice a n c] #[.int .i64 va, .slice b m d] #[.int .i64 va, .slice a n c]
  have H := hide (h.belowN hb0)
  clear h
  go_enter Tryz.func92, Tryz.ntmps92
  go_wp2
  refine bodyPost_ret (results_rowP rfl _ _ (w.heap.size + 1 + 1 + 1) _ #[.int .i64 va, .slice a n c] (0, 0) _ rfl hX4 Tryz.underlying42 rfl (by kernel_rfl)) rfl ?_
  exact ⟨a, n, c, rfl, H.out.imp fun q hq => .inl hq, hb0⟩
theorem Does15_calls (k d0 a0 b0 : Int) (v : UInt64) (hk : 1 ≤ k ∧ k ≤ 6) (P : Nat → Prop) (va : Int) (a b : Option Addr) (n c m d : Nat) (A B : List Tm) (w : World) (h : TOut P w a n c A) (h' : TOut P w b m d B) (hQA : checkP va A = true) (hQB : checkP va B = true)
    (V : Int) (L : List Tm) (E : Int) (hV : symV va k v A B = V) (hL : symL va k v A B = L) (hE : symE va k v A B = E) :
    Calls Tryz.prog 92 #[.agg #[.int .i64 k, .int .i64 d0, .int .i64 a0, .int .i64 b0, .int .u64 (v.toNat : Int)], .int .i64 va, .agg #[.int .i64 va, .slice a n c], .agg #[.int .i64 va, .slice b m d]] w (PolyAny P V L E w) := by
  have hc : k = 1 ∨ k = 2 ∨ k = 3 ∨ k = 4 ∨ k = 5 ∨ k = 6 := by omega
  rcases hc with rfl | rfl | rfl | rfl | rfl | rfl
  · exact (Does15_add 0 d0 a0 b0 v P P va a b n c m d A B w h h' hQA hQB V L E hV hL hE).mono fun e w' hh => hh.any P
  · exact (Does15_sub 0 d0 a0 b0 v P P va a b n c m d A B w h h' hQA hQB V L E hV hL hE).mono fun e w' hh => hh.any P
  · exact (Does15_mul 0 d0 a0 b0 v P P va a b n c m d A B w h h' hQA hQB V L E hV hL hE).mono fun e w' hh => hh.any P
  · exact (Does15_neg 0 d0 a0 b0 v P P va a b n c m d A B w h h' hQA hQB V L E hV hL hE).mono fun e w' hh => hh.any P
  · exact (Does15_con 0 d0 a0 b0 v P P va a b n c m d A B w h h' hQA hQB V L E hV hL hE).mono fun e w' hh => hh.any P
  · have e1 : symV va 6 v A B = va := rfl
    have e2 : symL va 6 v A B = A := rfl
    have e3 : symE va 6 v A B = 0 := rfl
    rw [← hV, ← hL, ← hE, e1, e2, e3]
    exact Does15_cpy d0 a0 b0 v P va a b n c m d A w h
theorem Reckon_calls (gb : Nat) (k d0 a0 b0 : Int) (v : UInt64) (hk : 1 ≤ k ∧ k ≤ 5) (P Q : Nat → Prop) (va : Int) (a b : Option Addr) (n c m d : Nat) (A B : List Tm) (w : World) (h : TOut P w a n c A) (h' : TOut Q w b m d B) (hQA : checkP va A = true) (hQB : checkP va B = true)
    (bm bn : Value) (hbk : Blk w gb 159 #[.int .i64 va, bm, bn]) (V : Int) (L : List Tm) (E : Int) (hV : symV va k v A B = V) (hL : symL va k v A B = L) (hE : symE va k v A B = E) :
    Calls Tryz.prog 129 #[.pointer (some ⟨gb, 0, none⟩), .agg #[.int .i64 k, .int .i64 d0, .int .i64 a0, .int .i64 b0, .int .u64 (v.toNat : Int)], .agg #[.int .i64 va, .slice a n c], .agg #[.int .i64 va, .slice b m d]] w (PolyOut V L E w) := by
  have hc : k = 1 ∨ k = 2 ∨ k = 3 ∨ k = 4 ∨ k = 5 := by omega
  rcases hc with rfl | rfl | rfl | rfl | rfl
  · exact Reckon_add gb d0 a0 b0 v P Q va a b n c m d A B w h h' hQA hQB V L E hV hL hE
  · exact Reckon_sub gb d0 a0 b0 v P Q va a b n c m d A B w h h' hQA hQB V L E hV hL hE
  · exact Reckon_mul gb d0 a0 b0 v P Q va a b n c m d A B w h h' hQA hQB V L E hV hL hE
  · exact Reckon_neg gb d0 a0 b0 v P Q va a b n c m d A B w h h' hQA hQB V L E hV hL hE
  · exact Reckon_con gb d0 a0 b0 v P Q va a b n c m d A B w h h' hQA hQB V L E bm bn hbk hV hL hE
/-- what comes of an operation that may be is a polynomial that may be -/
theorem mk_fine {va : Int} {l : List Tm} (h : mkE va l = 0) : mkV va l = va ∧ checkP va (mkL va l) = true := by
  obtain ⟨e1, e2, _, _, _, e3⟩ := mk_ok0 h
  exact ⟨e1, by rw [e2]; exact e3⟩
theorem sym_fine {va k : Int} {v : UInt64} {A B : List Tm} (hA : checkP va A = true) (h : symE va k v A B = 0) : symV va k v A B = va ∧ checkP va (symL va k v A B) = true := by
  unfold symE at h
  unfold symV symL
  split at h
  · rename_i hk; rw [if_pos hk, if_pos hk]; exact mk_fine h
  rename_i h1; rw [if_neg h1, if_neg h1]
  split at h
  · rename_i hk; rw [if_pos hk, if_pos hk]; exact mk_fine h
  rename_i h2; rw [if_neg h2, if_neg h2]
  split at h
  · rename_i hk; rw [if_pos hk, if_pos hk]
    unfold mulE at h
    split at h
    · rename_i hr
      unfold mulV mulL
      rw [if_pos hr, if_pos hr]; exact mk_fine h
    · cases h
  rename_i h3; rw [if_neg h3, if_neg h3]
  split at h
  · rename_i hk; rw [if_pos hk, if_pos hk]; exact mk_fine h
  rename_i h4; rw [if_neg h4, if_neg h4]
  split at h
  · rename_i hk; rw [if_pos hk, if_pos hk]; exact mk_fine h
  rename_i h5; rw [if_neg h5, if_neg h5]
  exact ⟨rfl, hA⟩
/-- a run on polynomials: the error of the first operation that has none, and what the registers are -/
def runS (va : Int) : List OpD → List (List Tm) → Int × List (List Tm)
  | [], r => (0, r)
  | x :: l, r => if symE va x.kind x.v (r.getD x.a.toNat []) (r.getD x.b.toNat []) = 0 then runS va l (r.set x.d.toNat (symL va x.kind x.v (r.getD x.a.toNat []) (r.getD x.b.toNat []))) else (symE va x.kind x.v (r.getD x.a.toNat []) (r.getD x.b.toNat []), [])
/-- polynomials of va variables that may be -/
def AllP (va : Int) (r : List (List Tm)) : Prop := ∀ L ∈ r, checkP va L = true
theorem AllP.get {va : Int} {r : List (List Tm)} (h : AllP va r) {k : Nat} (hk : k < r.length) : checkP va (r.getD k []) = true := by
  rw [List.getD_eq_getElem?_getD, List.getElem?_eq_getElem hk]
  exact h _ (List.getElem_mem hk)
theorem AllP.set {va : Int} {r : List (List Tm)} (h : AllP va r) {L : List Tm} (hL : checkP va L = true) (k : Nat) : AllP va (r.set k L) := fun M hM => by
  rcases List.mem_or_eq_of_mem_set hM with h1 | h1
  · exact h M h1
  · rw [h1]; exact hL
/-- a polynomial in memory -/
structure PoH where
  v : Int
  a : Option Addr
  n : Nat
  c : Nat
instance : Flat PoH := ⟨2, fun x => [.int .i64 x.v, .slice x.a x.n x.c], fun _ => rfl, fun x u hu => by simp at hu; rcases hu with rfl | rfl <;> rfl, by decide⟩
instance : Inhabited PoH := ⟨⟨0, none, 0, 0⟩⟩
/-- a state in memory -/
structure StH where
  v : Int
  a : Option Addr
  n : Nat
  c : Nat
  k : Int
instance : Flat StH := ⟨3, fun x => [.int .i64 x.v, .slice x.a x.n x.c, .int .i64 x.k], fun _ => rfl, fun x u hu => by simp at hu; rcases hu with rfl | rfl | rfl <;> rfl, by decide⟩
instance : Inhabited StH := ⟨⟨0, none, 0, 0, 0⟩⟩
/-- polynomials of va variables in memory -/
def PsAt (P : Nat → Prop) (w : World) (va : Int) (hs : List PoH) (r : List (List Tm)) : Prop := hs.length = r.length ∧ ∀ (i : Nat) (h : PoH) (L : List Tm), hs[i]? = some h → r[i]? = some L → h.v = va ∧ TOut P w h.a h.n h.c L
theorem PsAt.belowN {P : Nat → Prop} {w w' : World} {va : Int} {hs : List PoH} {r : List (List Tm)} (h : PsAt P w va hs r) (hb : Below w.heap.size w w') : PsAt P w' va hs r := ⟨h.1, fun i y L e1 e2 => ⟨(h.2 i y L e1 e2).1, (h.2 i y L e1 e2).2.belowN hb⟩⟩
theorem PsAt.imp {P Q : Nat → Prop} {w : World} {va : Int} {hs : List PoH} {r : List (List Tm)} (h : PsAt P w va hs r) (hi : ∀ q, P q → Q q) : PsAt Q w va hs r := ⟨h.1, fun i y L e1 e2 => ⟨(h.2 i y L e1 e2).1, (h.2 i y L e1 e2).2.imp hi⟩⟩
theorem PsAt.grown {P : Nat → Prop} {w w' : World} {va : Int} {hs : List PoH} {r : List (List Tm)} {row : Option Nat} (h : PsAt P w va hs r) (hgr : w.grownBy w' row) (hg : ∀ g, row = some g → ¬ P g) : PsAt P w' va hs r := ⟨h.1, fun i y L e1 e2 => ⟨(h.2 i y L e1 e2).1, (h.2 i y L e1 e2).2.grown hgr hg⟩⟩
theorem PsAt.bounded {P : Nat → Prop} {w : World} {va : Int} {hs : List PoH} {r : List (List Tm)} (h : PsAt P w va hs r) : PsAt (fun q => P q ∧ q < w.heap.size) w va hs r := ⟨h.1, fun i y L e1 e2 => ⟨(h.2 i y L e1 e2).1, (h.2 i y L e1 e2).2.bounded⟩⟩
theorem PsAt.nil (P : Nat → Prop) (w : World) (va : Int) : PsAt P w va [] [] := ⟨rfl, fun i h L e => by simp at e⟩
theorem PsAt.push {P : Nat → Prop} {w : World} {va : Int} {hs : List PoH} {r : List (List Tm)} (h : PsAt P w va hs r) {y : PoH} {L : List Tm} (hv : y.v = va) (hT : TOut P w y.a y.n y.c L) : PsAt P w va (hs ++ [y]) (r ++ [L]) := by
  refine ⟨by simp [h.1], fun i z M e1 e2 => ?_⟩
  by_cases hi : i < hs.length
  · rw [List.getElem?_append_left hi] at e1
    rw [List.getElem?_append_left (by rw [← h.1]; exact hi)] at e2
    exact h.2 i z M e1 e2
  · have h0 : i = hs.length := by
      have := List.getElem?_eq_some_iff.1 e1
      obtain ⟨h1, _⟩ := this
      simp at h1; omega
    subst h0
    rw [List.getElem?_append_right (Nat.le_refl _)] at e1
    rw [h.1, List.getElem?_append_right (Nat.le_refl _)] at e2
    simp at e1 e2
    subst e1 e2
    exact ⟨hv, hT⟩
theorem PsAt.set {P : Nat → Prop} {w : World} {va : Int} {hs : List PoH} {r : List (List Tm)} (h : PsAt P w va hs r) {y : PoH} {L : List Tm} (k : Nat) (hv : y.v = va) (hT : TOut P w y.a y.n y.c L) : PsAt P w va (hs.set k y) (r.set k L) := by
  refine ⟨by simp [h.1], fun i z M e1 e2 => ?_⟩
  by_cases hi : k = i
  · subst hi
    rw [List.getElem?_set] at e1 e2
    simp at e1 e2
    obtain ⟨_, rfl⟩ := e1
    obtain ⟨_, rfl⟩ := e2
    exact ⟨hv, hT⟩
  · rw [List.getElem?_set_ne hi] at e1 e2
    exact h.2 i z M e1 e2
theorem PsAt.get {P : Nat → Prop} {w : World} {va : Int} {hs : List PoH} {r : List (List Tm)} (h : PsAt P w va hs r) {k : Nat} {y : PoH} (hy : hs[k]? = some y) : y.v = va ∧ TOut P w y.a y.n y.c (r.getD k []) := by
  have hk : k < r.length := by rw [← h.1]; exact (List.getElem?_eq_some_iff.1 hy).1
  refine h.2 k y _ hy ?_
  rw [List.getD_eq_getElem?_getD, List.getElem?_eq_getElem hk]
  rfl
end Go.Proofs.YtcamcnahkdiefaaGreat

/- The document's run of operations on polynomials. -/
namespace Go.Proofs.YtcamcnahkdiefaaGreat
set_option linter.unusedVariables false
set_option linter.unusedSimpArgs false
open Go.RowKit
theorem tyPo : Ty Tryz.prog 27 42 PoH := Ty.of (z := .agg #[.int .i64 0, .slice none 0 0]) (size := 2) (bytes := 32) Tryz.underlying27 (by kernel_rfl) rfl (by decide) rfl
theorem At.getPo {w wr : World} {a : Option Addr} {l : List PoH} (h : At w a l) (hb : Below w.heap.size w wr) {k : Nat} (hk : k < l.length) :
    ∃ b off x, a = some ⟨b, off, none⟩ ∧ Hid (l[k]? = some x) ∧ wr.cell? ⟨b, off + k * 2, none⟩ = some (.int .i64 x.v) ∧ wr.cell? ⟨b, off + k * 2 + 1, none⟩ = some (.slice x.a x.n x.c) := by
  obtain ⟨b, off, x, e, hx, hc⟩ := (h.belowN hb).get hk
  exact ⟨b, off, x, e, hx, hc 0 _ rfl, hc 1 _ rfl⟩
theorem Own.setPo {w : World} {B : Nat} {E : TypeId} {g c : Nat} {l : List PoH} (h : Own w B E (some ⟨g, 0, .none⟩) c l) {i : Nat} {x : PoH} (hx : l[i]? = some x) (y : PoH) :
    Own ((w.setCell ⟨g, i * 2, .none⟩ (.int .i64 y.v)).setCell ⟨g, i * 2 + 1, .none⟩ (.slice y.a y.n y.c)) B E (some ⟨g, 0, .none⟩) c (l.set i y) := by
  have hi := (List.getElem?_eq_some_iff.1 hx).1
  have h1 := h.setAt i 0 ⟨y.v, x.a, x.n, x.c⟩ x (.int .i64 y.v) hx (by decide) rfl
  have h2 := h1.setAt i 1 y ⟨y.v, x.a, x.n, x.c⟩ (.slice y.a y.n y.c) (by rw [List.getElem?_set, if_pos rfl, if_pos hi]) (by decide) rfl
  rw [List.set_set] at h2
  exact h2
theorem box_far {gd z : Nat} (h : gd < z) (q : Nat) (hq : (q ≠ gd ∧ q < z) ∨ z + 1 ≤ q) : q ≠ gd ∧ q ≠ z := by omega
theorem box_far2 {gd z : Nat} (h : gd < z) (q : Nat) (hq : (q ≠ gd ∧ q < z) ∨ z ≤ q) : q ≠ gd := by omega
/-- a list of polynomials and an error -/
def PolysOut (va : Int) (RR : List (List Tm)) (EE : Int) (w : World) (e : Ending) (w' : World) : Prop :=
  ∃ a' n' c' hs', e = .returned (.tuple #[.slice a' n' c', .int .i64 EE]) ∧ n' = RR.length ∧ Own w' w.heap.size 42 a' c' hs' ∧ PsAt (fun _ => True) w' va hs' RR ∧ Below w.heap.size w w'
set_option maxRecDepth 100000 in
set_option maxHeartbeats 3200000 in
theorem Run15_calls (va : Int) (a : Option Addr) (ln c : Nat) (l : List OpD) (hln : ln = l.length) (sa : Option Addr) (sn sc : Nat) (hs : List PoH) (r : List (List Tm)) (hsn : sn = hs.length) (h0 : 0 < sn) (w : World) (h : At w a l) (hst : At w sa hs) (hP : PsAt (fun q => q < w.heap.size) w va hs r) (hAll : AllP va r)
    (hin : ∀ x ∈ l, (1 ≤ x.kind ∧ x.kind ≤ 6) ∧ InR (sn : Int) x) (hl : ln ≤ 1000000) (hsl : sn ≤ 1000000) (EE : Int) (RR : List (List Tm)) (hR : runS va l r = (EE, RR)) :
    Calls Tryz.prog 45 #[.slice a ln c, .slice sa sn sc] w (PolysOut va RR EE w) := by
  have HLN := hide hln
  have HSN := hide hsn
  clear hln hsn
  go_enter Tryz.func45, Tryz.ntmps45
  go_wp2_with fail
  go_loopw [6, 7] (fun rv iv wr => ∃ (k : Nat) (a' : Option Addr) (c' : Nat), rv = .slice a' k c' ∧ iv = .int .i64 k ∧ k ≤ sn ∧ Own wr w.heap.size 42 a' c' (hs.take k) ∧ Below w.heap.size w wr) (fun _ iv _ => sn - (intOf iv).toNat)
  case atStart => exact ⟨0, _, _, rfl, rfl, by omega, Own.new w (Nat.le_refl _) 42 PoH, below_box w _⟩
  case round =>
    obtain ⟨k, a', c', rfl, rfl, hk, hown, hb⟩ := hrel
    have hz := hb.size
    by_cases hlt : k < sn
    · obtain ⟨b1, off1, x, rfl, hx, c0, c1⟩ := hst.getPo hb (show k < hs.length by have := HSN.out; omega)
      have hkl : k = (hs.take k).length := by rw [List.length_take, ← HSN.out]; omega
      have HKL := hide hkl
      clear hkl
      go_wp2_with (at_builtin; go_must (refine wpList_push tyPo hown x rfl rfl rfl rfl rfl rfl HKL.out hz (by omega) ?_; intro a3 c3 w3 hown3 hg3 _))
      go_roundw
      case rel => exact ⟨k + 1, a3, c3, by go_num, by go_num, by omega, by rw [List.take_add_one, hx.out]; exact hown3, below_push hb hown hg3 hz⟩
      case measure => simp [intOf] <;> omega
    · have hkn : k = sn := by omega
      subst hkn
      rw [show hs.take k = hs by rw [HSN.out, List.take_length]] at hown
      obtain ⟨gd, e1, hgB, hgz⟩ := hown.some_ (by rintro rfl; have := HSN.out; simp at this; omega)
      subst e1
      have hP0 := (hP.belowN hb).imp (Q := fun q => q ≠ gd) (fun q hq => by omega)
      have hl0 := h.belowN hb
      have hst0 := hst.belowN hb
      obtain ⟨wo, rfl⟩ : ∃ wo : World, wo = wr := ⟨_, rfl⟩
      have hAn : ∀ q, a.map (·.block) = some q → l ≠ [] → q < w.heap.size := fun q e hne => by
        obtain ⟨b, off, e', hlt'⟩ := h.lt hne
        rw [e'] at e; simp at e; omega
      have hSn : ∀ q, sa.map (·.block) = some q → hs ≠ [] → q < w.heap.size := fun q e hne => by
        obtain ⟨b, off, e', hlt'⟩ := hst.lt hne
        rw [e'] at e; simp at e; omega
      have HVA := hide (fun (i : Nat) (y : PoH) (hy : hs[i]? = some y) => (hP.get hy).1)
      have HAN := hide hAn
      have HSB := hide hSn
      have HIN := hide hin
      have HR := hide hR
      clear hAn hSn hin hR hlt hk h hst hP
      go_wp2_with fail
      go_loopw [8] (fun iv wr => ∃ (j : Nat) (hs' : List PoH) (R : List (List Tm)), iv = .int .i64 j ∧ j ≤ ln ∧ Own wr w.heap.size 42 (some ⟨gd, 0, none⟩) c' hs' ∧ hs'.length = k ∧ PsAt (fun q => q ≠ gd) wr va hs' R ∧ AllP va R ∧ runS va (l.drop j) R = (EE, RR) ∧ Turned [gd] wo wr) (fun iv _ => ln - (intOf iv).toNat)
      case atStart => exact ⟨0, hs, r, rfl, by omega, hown, HSN.out.symm, hP0, hAll, HR.out, Turned.refl _ _⟩
      case round =>
        obtain ⟨j, hs', R, rfl, hj, hR, hRl, hPR, hAR, hRS, hTv⟩ := hrel
        have hzV := hTv.size
        by_cases hlt : j < ln
        · have hjl : j < l.length := by have := HLN.out; omega
          have hlne : l ≠ [] := by rintro rfl; simp at hjl
          have hsne : hs ≠ [] := by rintro rfl; have := HSN.out; simp at this; omega
          have hU4 := hl0.turned hTv (fun hne g hg e => by simp at hg; subst hg; have := HAN.out _ e hne; omega)
          have hS4 := hst0.turned hTv (fun hne g hg e => by simp at hg; subst hg; have := HSB.out _ e hne; omega)
          obtain ⟨b1', off1, x, rfl, hx, x0, x1, x2, x3, x4⟩ := hU4.getOp (Below.refl _ _) hjl
          obtain ⟨sb, soff, y0, rfl, hy, s0, s1⟩ := hS4.getPo (Below.refl _ _) (show 0 < hs.length by have := HSN.out; omega)
          simp only [Nat.zero_mul, Nat.add_zero] at s0 s1
          obtain ⟨⟨k1, k2⟩, ⟨d1, d2⟩, ⟨p1, p2⟩, ⟨i1, i2⟩⟩ := HIN.out x (List.mem_of_getElem? hx.out)
          have hy0 := HVA.out 0 y0 hy.out
          rw [hy0] at s0
          have hRlen : R.length = k := by rw [← hPR.1]; exact hRl
          obtain ⟨pd, hpd⟩ : ∃ y, hs'[x.d.toNat]? = some y := ⟨hs'[x.d.toNat]'(by omega), List.getElem?_eq_getElem _⟩
          obtain ⟨pa, hpa⟩ : ∃ y, hs'[x.a.toNat]? = some y := ⟨hs'[x.a.toNat]'(by omega), List.getElem?_eq_getElem _⟩
          obtain ⟨pb, hpb⟩ : ∃ y, hs'[x.b.toNat]? = some y := ⟨hs'[x.b.toNat]'(by omega), List.getElem?_eq_getElem _⟩
          obtain ⟨ga1, ga2⟩ := hPR.bounded.get hpa
          obtain ⟨gb1, gb2⟩ := hPR.bounded.get hpb
          have hca := hAR.get (k := x.a.toNat) (by omega)
          have hcb := hAR.get (k := x.b.toNat) (by omega)
          rw [drop_at hx.out, runS] at hRS
          generalize R.getD x.a.toNat [] = A at *
          generalize R.getD x.b.toNat [] = B at *
          obtain ⟨e0, he0⟩ : ∃ e, symE va x.kind x.v A B = e := ⟨_, rfl⟩
          obtain ⟨V0, hV0⟩ : ∃ e, symV va x.kind x.v A B = e := ⟨_, rfl⟩
          obtain ⟨L0, hL0⟩ : ∃ e, symL va x.kind x.v A B = e := ⟨_, rfl⟩
          have hfine := sym_fine (k := x.kind) (v := x.v) (B := B) hca
          rw [he0, hV0, hL0] at hfine
          rw [he0, hL0] at hRS
          have hd0 : Below wr.heap.size wr wr.drew := Below.drew (Below.refl _ _)
          have HDO := hide (fun (W : World) (hW : Below wr.heap.size wr W) => Does15_calls x.kind x.d x.a x.b x.v ⟨k1, k2⟩ (fun q => q ≠ gd ∧ q < wr.heap.size) va pa.a pb.a pa.n pa.c pb.n pb.c A B W (ga2.belowN hW) (gb2.belowN hW) hca hcb V0 L0 e0 hV0 hL0 he0)
          have ca0 := hR.cellAt hpa (f := 0) rfl
          have ca1 := hR.cellAt hpa (f := 1) rfl
          have cb0 := hR.cellAt hpb (f := 0) rfl
          have cb1 := hR.cellAt hpb (f := 1) rfl
          have cd0 := hR.cellAt hpd (f := 0) rfl
          have cd1 := hR.cellAt hpd (f := 1) rfl
          have fd0 := hR.frozen (x.d.toNat * 2)
          have fd1 := hR.frozen (x.d.toNat * 2 + 1)
          simp only [Flat.n, Nat.add_zero] at ca0 ca1 cb0 cb1 cd0 cd1
          rw [ga1] at ca0
          rw [gb1] at cb0
          have HPD := hide hpd
          have HPR := hide hPR
          have HFI := hide hfine
          have HRS := hide hRS
          have HLL := hide hRlen
          clear hfine hRS hV0 hL0 he0 hca hcb ga1 ga2 gb1 gb2 hpa hpb hpd hPR hRlen
          have hbx : b1' < wr.heap.size := World.block_lt_of_cell? wr _ x0
          have hsx : sb < wr.heap.size := World.block_lt_of_cell? wr _ s0
          have hgx : gd < wr.heap.size := by omega
          have HSI4 : Hid (∀ w4, Below wr.heap.size wr w4 → (w4.cell? ⟨b1', off1 + j * 5, none⟩ = some (.int .i64 x.kind) ∧ w4.cell? ⟨b1', off1 + j * 5 + 1, none⟩ = some (.int .i64 x.d) ∧ w4.cell? ⟨b1', off1 + j * 5 + 2, none⟩ = some (.int .i64 x.a) ∧ w4.cell? ⟨b1', off1 + j * 5 + 3, none⟩ = some (.int .i64 x.b) ∧ w4.cell? ⟨b1', off1 + j * 5 + 4, none⟩ = some (.int .u64 (x.v.toNat : Int))) ∧ w4.cell? ⟨sb, soff, none⟩ = some (.int .i64 va) ∧ w4.cell? ⟨gd, x.a.toNat * 2, none⟩ = some (.int .i64 va) ∧ w4.cell? ⟨gd, x.a.toNat * 2 + 1, none⟩ = some (.slice pa.a pa.n pa.c) ∧ w4.cell? ⟨gd, x.b.toNat * 2, none⟩ = some (.int .i64 va) ∧ w4.cell? ⟨gd, x.b.toNat * 2 + 1, none⟩ = some (.slice pb.a pb.n pb.c)) := by
            show ∀ w4, _ → _
            intro w4 hb4
            obtain ⟨y0, _⟩ := bcell hb4
            exact ⟨⟨(y0 _ _ hbx).trans x0, (y0 _ _ hbx).trans x1, (y0 _ _ hbx).trans x2, (y0 _ _ hbx).trans x3, (y0 _ _ hbx).trans x4⟩, (y0 _ _ hsx).trans s0, (y0 _ _ hgx).trans ca0, (y0 _ _ hgx).trans ca1, (y0 _ _ hgx).trans cb0, (y0 _ _ hgx).trans cb1⟩
          have hdZ : Below wr.heap.size wr (wr.alloc (.cells #[.int .i64 0, .slice none 0 0] 42)).drew := Below.drew (below_box wr _)
          have hNb : Blk (wr.alloc (.cells #[.int .i64 0, .slice none 0 0] 42)).drew wr.heap.size 42 #[.int .i64 0, .slice none 0 0] := Blk.new wr _ _
          have n1 : wr.heap.size ≠ b1' := by omega
          have n2 : wr.heap.size ≠ sb := by omega
          have n3 : wr.heap.size ≠ gd := by omega
          go_wp2_with fail
          go_region_held3 (fun w' => (w'.cell? ⟨b1', off1 + j * 5, none⟩ = some (.int .i64 x.kind) ∧ w'.cell? ⟨b1', off1 + j * 5 + 1, none⟩ = some (.int .i64 x.d) ∧ w'.cell? ⟨b1', off1 + j * 5 + 2, none⟩ = some (.int .i64 x.a) ∧ w'.cell? ⟨b1', off1 + j * 5 + 3, none⟩ = some (.int .i64 x.b) ∧ w'.cell? ⟨b1', off1 + j * 5 + 4, none⟩ = some (.int .u64 (x.v.toNat : Int))) ∧ w'.cell? ⟨sb, soff, none⟩ = some (.int .i64 va) ∧ w'.cell? ⟨gd, x.a.toNat * 2, none⟩ = some (.int .i64 va) ∧ w'.cell? ⟨gd, x.a.toNat * 2 + 1, none⟩ = some (.slice pa.a pa.n pa.c) ∧ w'.cell? ⟨gd, x.b.toNat * 2, none⟩ = some (.int .i64 va) ∧ w'.cell? ⟨gd, x.b.toNat * 2 + 1, none⟩ = some (.slice pb.a pb.n pb.c)) (go_keep)
            (first
              | (go_at_call 92; go_must (first
                  | ((with_reducible refine (HDO.out _ hdZ).mono ?_); rintro e w4 ⟨a4, n4, c4, rfl, hT4, hb4⟩; have hB4 := hdZ.trans (hb4.mono hdZ.size); obtain ⟨⟨t0, t1, t2, t3, t4⟩, t5, t6, t7, t8, t9⟩ := HSI4.out w4 hB4; have hN4 := hNb.belowN hb4; obtain ⟨u0, u1, u2, u3⟩ := hN4.c2)
                  | ((with_reducible refine (HDO.out _ hd0).mono ?_); rintro e w4 ⟨a4, n4, c4, rfl, hT4, hb4⟩; have hB4 := hd0.trans (hb4.mono hd0.size); obtain ⟨⟨t0, t1, t2, t3, t4⟩, t5, t6, t7, t8, t9⟩ := HSI4.out w4 hB4; have m1 : w4.heap.size ≠ b1' := (by have := hB4.size; omega); have m2 : w4.heap.size ≠ sb := (by have := hB4.size; omega); have m3 : w4.heap.size ≠ gd := (by have := hB4.size; omega)))))
          all_goals
            first
              | (have hB5 := (hB4.setCell (p := ⟨wr.heap.size, 0, none⟩) (Nat.le_refl _) (.int .i64 V0)).setCell (p := ⟨wr.heap.size, 1, none⟩) (Nat.le_refl _) (.slice a4 n4 c4); have hN5 := (hN4.set_ 0 (.int .i64 V0)).set_ 1 (.slice a4 n4 c4); have hT4' := (hT4.imp (fun q hq => box_far hgx q (hq.imp id (fun h => by (simp at h; omega))))); have hT5 := ((hT4'.setCell (g := wr.heap.size) (i := 0) (.int .i64 V0) (fun h => h.2 rfl)).setCell (g := wr.heap.size) (i := 1) (.slice a4 n4 c4) (fun h => h.2 rfl)).imp (Q := fun q => q ≠ gd) (fun q hq => hq.1); obtain ⟨gq, hgq⟩ : ∃ gq, gq = wr.heap.size := ⟨_, rfl⟩)
              | (have hB5 := hB4.alloc hB4.size (.cells #[.int .i64 V0, .slice a4 n4 c4] 42); have hN5 := Blk.new w4 42 #[.int .i64 V0, .slice a4 n4 c4]; have hT5 := (hT4.imp (Q := fun q => q ≠ gd) (fun q hq => box_far2 hgx q hq)).belowN (below_box w4 (.cells #[.int .i64 V0, .slice a4 n4 c4] 42)))
            obtain ⟨v0, v1, v2, v3⟩ := hN5.c2
            obtain ⟨y0, y1⟩ := bcell hB5
            have z0 := (y0 gd (x.d.toNat * 2) hgx).trans cd0
            have z1 := (y0 gd (x.d.toNat * 2 + 1) hgx).trans cd1
            have z2 := (y1 gd (x.d.toNat * 2) hgx).trans fd0
            have z3 := (y1 gd (x.d.toNat * 2 + 1) hgx).trans fd1
            have z4 := (y0 b1' (off1 + j * 5 + 1) hbx).trans x1
            clear y0 y1
            by_cases he : e0 = 0
            · have he1 : (e0 == 0) = true := by simpa using he
              have he2 : (e0 != 0) = false := by simpa using he
              have hrr := HRS.out
              rw [if_pos he] at hrr
              obtain ⟨f1, f2⟩ := HFI.out he
              have hR5 := (hR.belowN hB5).setPo HPD.out ⟨V0, a4, n4, c4⟩
              have hP5 := ((HPR.out.belowN hB5).set x.d.toNat (y := ⟨V0, a4, n4, c4⟩) f1 hT5).grown (grown_setCell _ gd (x.d.toNat * 2) (.int .i64 V0)) (fun g hg => by injection hg with hg; subst hg; exact fun h => h rfl)
              have hP6 := hP5.grown (grown_setCell _ gd (x.d.toNat * 2 + 1) (.slice a4 n4 c4)) (fun g hg => by injection hg with hg; subst hg; exact fun h => h rfl)
              have hA6 := hAR.set f2 x.d.toNat
              have hT6 := ((Turned.ofBelow (F := [gd]) hB5).trans (Turned.ofGrown (F := [gd]) (grown_setCell _ gd (x.d.toNat * 2) (.int .i64 V0)) (fun q hq => .inl (by injection hq with hq; simp [hq]))) (fun q hq => .inl hq)).trans (Turned.ofGrown (F := [gd]) (grown_setCell _ gd (x.d.toNat * 2 + 1) (.slice a4 n4 c4)) (fun q hq => .inl (by injection hq with hq; simp [hq]))) (fun q hq => .inl hq)
              have HRR := hide hrr
              have HF1 := hide f1
              clear hrr f1 f2 he hP5
              go_wp2
              go_region
              go_wp2
              go_roundw
              case rel => exact ⟨j + 1, _, _, by go_num, by omega, hR5, by simp [hRl], hP6.belowN (Below.drew (Below.refl _ _)), hA6, HRR.out, (hTv.trans hT6 (fun q hq => .inl hq)).trans (Turned.ofBelow (F := [gd]) (Below.drew (Below.refl _ _))) (fun q hq => .inl hq)⟩
              case measure => simp [intOf] <;> omega
            · have he1 : (e0 == 0) = false := by simpa using he
              have he2 : (e0 != 0) = true := by simpa using he
              have hrr := HRS.out
              rw [if_neg he] at hrr
              injection hrr with hE1 hE2
              have HE1 := hide hE1
              have HE2 := hide hE2
              clear hE1 hE2 he
              go_wp2
              go_ret2
              refine ⟨none, 0, 0, [], ?_, by rw [← HE2.out]; rfl, Own.none _ _ _, by rw [← HE2.out]; exact PsAt.nil _ _ _, (hTv.below hb (fun g hg => by simp at hg; subst hg; exact hgB) hz).trans (hB5.mono (by omega))⟩
              rw [← HE1.out]
              rfl
        · have hjn : j = ln := by omega
          subst hjn
          rw [show l.drop j = [] by rw [HLN.out, List.drop_length], runS] at hRS
          injection hRS with hE1 hE2
          have HE1 := hide hE1
          have HE2 := hide hE2
          clear hE1 hE2
          go_wp2
          go_ret2
          refine ⟨some ⟨gd, 0, none⟩, k, c', hs', ?_, by rw [← HE2.out, ← hPR.1]; exact hRl.symm, hR, by rw [← HE2.out]; exact hPR.imp fun _ _ => trivial, hTv.below hb (fun g hg => by simp at hg; subst hg; exact hgB) hz⟩
          rw [← HE1.out]
          rfl
end Go.Proofs.YtcamcnahkdiefaaGreat
