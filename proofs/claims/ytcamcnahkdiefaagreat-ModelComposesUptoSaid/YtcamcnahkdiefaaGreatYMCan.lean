/- Several texts of mine in one file. -/
import Derived.Test.YtcamcnahkdiefaaGreatYMCam
import Derived.Test.YtcamcnahkdiefaaGreatYMCah
import Derived.Test.YtcamcnahkdiefaaGreatYMCae
import Derived.ArgAppend
import Derived.Deep.Upon
import Derived.Test.YtcamcnahkdiefaaGreatYMCaa
import Derived.Test.YtcamcnahkdiefaaGreatYMCak
/- Several texts of mine in one file: Sya, Syb, Syc. -/
/- symbol.reckon and the document's does: what an operation makes of two polynomials. -/
namespace Go.Proofs.YtcamcnahkdiefaaGreat
set_option linter.unusedVariables false
set_option linter.unusedSimpArgs false
open Go.RowKit
theorem AtTP.grown {P : Nat → Prop} {w w' : World} {a : Option Addr} {ts : List Tm} {row : Option Nat} (h : AtTP P w a ts) (hgr : w.grownBy w' row) (hg : ∀ g, row = some g → ¬ P g) : AtTP P w' a ts := by
  obtain ⟨hs, h1, h2, h3, h4, h5⟩ := h
  cases row with
  | none => exact ⟨hs, h1.grown hgr (fun _ => .inr rfl), h2, fun j y t e1 e2 => by obtain ⟨k1, k2, k3, k4, k5⟩ := h3 j y t e1 e2; exact ⟨k1, k2, k3, k4, k5.grown hgr (fun _ => .inr rfl)⟩, h4, h5⟩
  | some g =>
    refine ⟨hs, h1.grown hgr (fun hne => ?_), h2, fun j y t e1 e2 => ?_, h4, h5⟩
    · have htn : ts ≠ [] := by rintro rfl; exact hne (List.eq_nil_of_length_eq_zero h2)
      refine .inl fun e' => hg g rfl (h4 htn g e')
    · obtain ⟨k1, k2, k3, k4, k5⟩ := h3 j y t e1 e2
      refine ⟨k1, k2, k3, k4, k5.grown hgr (fun hne => ?_)⟩
      refine .inl fun e' => hg g rfl (h5 j y t e1 e2 hne g e')
theorem AtTP.bounded {P : Nat → Prop} {w : World} {a : Option Addr} {ts : List Tm} (h : AtTP P w a ts) : AtTP (fun q => P q ∧ q < w.heap.size) w a ts := by
  obtain ⟨hs, h1, h2, h3, h4, h5⟩ := h
  refine ⟨hs, h1, h2, h3, fun hne q e => ⟨h4 hne q e, ?_⟩, fun i y t e1 e2 hne q e => ⟨h5 i y t e1 e2 hne q e, ?_⟩⟩
  · obtain ⟨b, off, e', hb⟩ := h1.lt (by rintro rfl; exact hne (List.eq_nil_of_length_eq_zero h2.symm))
    rw [e'] at e; simp at e; omega
  · obtain ⟨b, off, e', hb⟩ := (h3 i y t e1 e2).2.2.2.2.lt hne
    rw [e'] at e; simp at e; omega
theorem TOut.grown {P : Nat → Prop} {w w' : World} {a : Option Addr} {n c : Nat} {M : List Tm} {row : Option Nat} (h : TOut P w a n c M) (hgr : w.grownBy w' row) (hg : ∀ g, row = some g → ¬ P g) : TOut P w' a n c M := ⟨h.len, h.cap, h.max, h.at_.grown hgr hg⟩
theorem TOut.bounded {P : Nat → Prop} {w : World} {a : Option Addr} {n c : Nat} {M : List Tm} (h : TOut P w a n c M) : TOut (fun q => P q ∧ q < w.heap.size) w a n c M := ⟨h.len, h.cap, h.max, h.at_.bounded⟩
def symE (va k : Int) (v : UInt64) (A B : List Tm) : Int :=
  if k = 1 then mkE va (A ++ B) else if k = 2 then mkE va (A ++ sortT (negT B)) else if k = 3 then mulE va A B else if k = 4 then mkE va (negT A) else if k = 5 then mkE va (constT va v) else 0
def symV (va k : Int) (v : UInt64) (A B : List Tm) : Int :=
  if k = 1 then mkV va (A ++ B) else if k = 2 then mkV va (A ++ sortT (negT B)) else if k = 3 then mulV va A B else if k = 4 then mkV va (negT A) else if k = 5 then mkV va (constT va v) else va
def symL (va k : Int) (v : UInt64) (A B : List Tm) : List Tm :=
  if k = 1 then mkL va (A ++ B) else if k = 2 then mkL va (A ++ sortT (negT B)) else if k = 3 then mulL va A B else if k = 4 then mkL va (negT A) else if k = 5 then mkL va (constT va v) else A
theorem checkP_len {va : Int} {A : List Tm} (h : checkP va A = true) : A.length ≤ 1000000 ∧ ∀ t ∈ A, t.2.length ≤ 1000000 := by
  have h' := (checkP_ok h).len6
  refine ⟨?_, h'⟩
  unfold checkP at h
  simp only [Bool.and_eq_true, decide_eq_true_eq] at h
  omega
def PolyAny (P : Nat → Prop) (V : Int) (L : List Tm) (E : Int) (w : World) (e : Ending) (w' : World) : Prop :=
  ∃ a n c, e = .returned (.tuple #[.agg #[.int .i64 V, .slice a n c], .int .i64 E]) ∧ TOut (fun q => P q ∨ w.heap.size ≤ q) w' a n c L ∧ Below w.heap.size w w'
theorem PolyOut.any {V : Int} {L : List Tm} {E : Int} {w w' : World} {e : Ending} (P : Nat → Prop) (h : PolyOut V L E w e w') : PolyAny P V L E w e w' := by
  obtain ⟨a, n, c, rfl, h1, h2⟩ := h
  exact ⟨a, n, c, rfl, h1.imp fun q hq => .inr hq, h2⟩
theorem four_boxes (w : World) (T1 T2 T3 T4 : TypeId) (c1 c2 c3 c4 : Array Value) : Blk ((((w.alloc (.cells c1 T1)).alloc (.cells c2 T2)).alloc (.cells c3 T3)).alloc (.cells c4 T4)) w.heap.size T1 c1 ∧ Blk ((((w.alloc (.cells c1 T1)).alloc (.cells c2 T2)).alloc (.cells c3 T3)).alloc (.cells c4 T4)) (w.heap.size + 1) T2 c2 ∧
    Blk ((((w.alloc (.cells c1 T1)).alloc (.cells c2 T2)).alloc (.cells c3 T3)).alloc (.cells c4 T4)) (w.heap.size + 1 + 1) T3 c3 ∧ Blk ((((w.alloc (.cells c1 T1)).alloc (.cells c2 T2)).alloc (.cells c3 T3)).alloc (.cells c4 T4)) (w.heap.size + 1 + 1 + 1) T4 c4 ∧ Below w.heap.size w ((((w.alloc (.cells c1 T1)).alloc (.cells c2 T2)).alloc (.cells c3 T3)).alloc (.cells c4 T4)) ∧ ((((w.alloc (.cells c1 T1)).alloc (.cells c2 T2)).alloc (.cells c3 T3)).alloc (.cells c4 T4)).heap.size = w.heap.size + 1 + 1 + 1 + 1 := by
  obtain ⟨h1, h2, h3, hb, hz⟩ := three_boxes w T1 T2 T3 c1 c2 c3
  have h4 := Blk.new (((w.alloc (.cells c1 T1)).alloc (.cells c2 T2)).alloc (.cells c3 T3)) T4 c4
  rw [hz] at h4
  exact ⟨h1.alloc _, h2.alloc _, h3.alloc _, h4, hb.alloc (by omega) _, by simp⟩
theorem neg_facts {va : Int} {B : List Tm} (h : checkP va B = true) : mkE va (negT B) = 0 ∧ mkV va (negT B) = va ∧ mkL va (negT B) = sortT (negT B) ∧ checkP va (sortT (negT B)) = true := by
  have k := checkP_ok h
  have hr := negT_right k.right
  have hl : (sortT (negT B)).length ≤ 4096 := Nat.le_trans (sort_len _) (by rw [negT_len]; exact k.len)
  obtain ⟨e1, e2, e3⟩ := mk_of_ok k.range hr hl
  exact ⟨e1, e2, e3, check_sort k.range hr hl⟩
set_option maxRecDepth 100000 in
set_option maxHeartbeats 3200000 in
theorem Reckon_add (gb : Nat) (d0 a0 b0 : Int) (v : UInt64) (P Q : Nat → Prop) (va : Int) (a b : Option Addr) (n c m d : Nat) (A B : List Tm) (w : World) (h : TOut P w a n c A) (h' : TOut Q w b m d B) (hQA : checkP va A = true) (hQB : checkP va B = true) (V : Int) (L : List Tm) (E : Int) (hV : mkV va (A ++ B) = V) (hL : mkL va (A ++ B) = L) (hE : mkE va (A ++ B) = E) :
    Calls Tryz.prog 129 #[.pointer (some ⟨gb, 0, none⟩), .agg #[.int .i64 1, .int .i64 d0, .int .i64 a0, .int .i64 b0, .int .u64 (v.toNat : Int)], .agg #[.int .i64 va, .slice a n c], .agg #[.int .i64 va, .slice b m d]] w (PolyOut V L E w) := by
  obtain ⟨hX1, hX2, hX3, hX4, hb0, hz0⟩ := four_boxes w 89 42 42 42 #[.int .i64 1, .int .i64 d0, .int .i64 a0, .int .i64 b0, .int .u64 (v.toNat : Int)] #[.int .i64 va, .slice a n c] #[.int .i64 va, .slice b m d] #[.int .i64 0, .slice none 0 0]
  obtain ⟨W0, hW0⟩ : ∃ W0, ((((w.alloc (.cells #[.int .i64 1, .int .i64 d0, .int .i64 a0, .int .i64 b0, .int .u64 (v.toNat : Int)] 89)).alloc (.cells #[.int .i64 va, .slice a n c] 42)).alloc (.cells #[.int .i64 va, .slice b m d] 42)).alloc (.cells #[.int .i64 0, .slice none 0 0] 42)) = W0 := ⟨_, rfl⟩
  rw [hW0] at hX1 hX2 hX3 hX4 hb0 hz0
  obtain ⟨o0, o1, o2, o3, o4, o5, o6, o7, o8, o9⟩ := hX1.c5
  obtain ⟨p0, p1, p2, p3⟩ := hX2.c2
  obtain ⟨q0, q1, q2, q3⟩ := hX3.c2
  have HW0 := hide hW0
  have HA := hide (PAdd_good P Q va a b n c m d A B W0 (h.belowN hb0) (h'.belowN hb0) hQA hQB V L E hV hL hE)
  clear hW0 hQA hQB h h' hV hL hE
  go_enter Tryz.func129, Tryz.ntmps129
  go_wp2_with (go_at_call 160; go_must ((rw [HW0.out]); (with_reducible refine (HA.out).mono ?_); rintro vv w9 ⟨a9, n9, c9, rfl, hT9, hb9⟩; have hX9 := hX4.belowN hb9; obtain ⟨x0, x1, x2, x3⟩ := hX9.c2))
  have hB9 := hb0.trans (hb9.mono hb0.size)
  have hg9 : w.heap.size + 1 + 1 + 1 < W0.heap.size := by omega
  have hs9 := hb0.size
  have hF6 := (hX9.set_ 0 (.int .i64 V)).set_ 1 (.slice a9 n9 c9)
  refine bodyPost_ret (results_rowP rfl _ _ (w.heap.size + 1 + 1 + 1) _ #[.int .i64 V, .slice a9 n9 c9] (0, 0) _ rfl hF6 Tryz.underlying42 rfl (by kernel_rfl)) rfl ?_
  exact PolyOut.stored hB9 hT9 (by omega) hg9 hs9
set_option maxRecDepth 100000 in
set_option maxHeartbeats 3200000 in
theorem Reckon_sub (gb : Nat) (d0 a0 b0 : Int) (v : UInt64) (P Q : Nat → Prop) (va : Int) (a b : Option Addr) (n c m d : Nat) (A B : List Tm) (w : World) (h : TOut P w a n c A) (h' : TOut Q w b m d B) (hQA : checkP va A = true) (hQB : checkP va B = true) (V : Int) (L : List Tm) (E : Int) (hV : mkV va (A ++ sortT (negT B)) = V) (hL : mkL va (A ++ sortT (negT B)) = L) (hE : mkE va (A ++ sortT (negT B)) = E) :
    Calls Tryz.prog 129 #[.pointer (some ⟨gb, 0, none⟩), .agg #[.int .i64 2, .int .i64 d0, .int .i64 a0, .int .i64 b0, .int .u64 (v.toNat : Int)], .agg #[.int .i64 va, .slice a n c], .agg #[.int .i64 va, .slice b m d]] w (PolyOut V L E w) := by
  obtain ⟨e1, e2, e3, e4⟩ := neg_facts hQB
  obtain ⟨hX1, hX2, hX3, hX4, hb0, hz0⟩ := four_boxes w 89 42 42 42 #[.int .i64 2, .int .i64 d0, .int .i64 a0, .int .i64 b0, .int .u64 (v.toNat : Int)] #[.int .i64 va, .slice a n c] #[.int .i64 va, .slice b m d] #[.int .i64 0, .slice none 0 0]
  obtain ⟨W0, hW0⟩ : ∃ W0, ((((w.alloc (.cells #[.int .i64 2, .int .i64 d0, .int .i64 a0, .int .i64 b0, .int .u64 (v.toNat : Int)] 89)).alloc (.cells #[.int .i64 va, .slice a n c] 42)).alloc (.cells #[.int .i64 va, .slice b m d] 42)).alloc (.cells #[.int .i64 0, .slice none 0 0] 42)) = W0 := ⟨_, rfl⟩
  rw [hW0] at hX1 hX2 hX3 hX4 hb0 hz0
  obtain ⟨o0, o1, o2, o3, o4, o5, o6, o7, o8, o9⟩ := hX1.c5
  obtain ⟨p0, p1, p2, p3⟩ := hX2.c2
  obtain ⟨q0, q1, q2, q3⟩ := hX3.c2
  have HW0 := hide hW0
  obtain ⟨M, hM⟩ : ∃ M, sortT (negT B) = M := ⟨_, rfl⟩
  rw [hM] at hV hL hE e3 e4
  have HA := hide (PNeg_good Q va b m d B W0 (h'.belowN hb0) hQB va M 0 e2 e3 e1)
  have HB := hide (fun (W : World) (kk : Below W0.heap.size W0 W) (a2 : Option Addr) (n2 c2 : Nat) (kT : TOut (fun q => W0.heap.size ≤ q) W a2 n2 c2 M) => PAdd_good P (fun q => W0.heap.size ≤ q) va a a2 n c n2 c2 A M W ((h.belowN hb0).belowN kk) kT hQA e4 V L E hV hL hE)
  clear hW0 hQA hQB h h' hV hL hE hM e1 e2 e3 e4
  go_enter Tryz.func129, Tryz.ntmps129
  go_wp2_with (first
    | (go_at_call 160; go_must ((with_reducible refine (HB.out _ hb2 _ _ _ hT2).mono ?_); rintro vv w9 ⟨a9, n9, c9, rfl, hT9, hb9⟩; have hB8 := hb2.trans (hb9.mono hb2.size); have hX9 := hX4.belowN hB8; obtain ⟨x0, x1, x2, x3⟩ := hX9.c2))
    | (go_at_call 161; go_must ((rw [HW0.out]); (with_reducible refine (HA.out).mono ?_); rintro vv w1 ⟨a1, n1, c1, rfl, hT1, hb1⟩; have hb2 := hb1.alloc hb1.size (.cells #[.int .i64 va, .slice a1 n1 c1] 42); have hT2 := hT1.belowN (below_box w1 (.cells #[.int .i64 va, .slice a1 n1 c1] 42)); have hN := Blk.new w1 42 #[.int .i64 va, .slice a1 n1 c1]; obtain ⟨y0, y1, y2, y3⟩ := hN.c2; obtain ⟨p4, p5, p6, p7⟩ := (hX2.belowN hb2).c2; obtain ⟨x4, x5, x6, x7⟩ := (hX4.belowN hb2).c2; have hzz := hb1.size)))
  have hB9 := hb0.trans (hB8.mono hb0.size)
  have hg9 : w.heap.size + 1 + 1 + 1 < (w1.alloc (.cells #[.int .i64 va, .slice a1 n1 c1] 42)).heap.size := by have := hb2.size; omega
  have hs9 := Nat.le_trans hb0.size hb2.size
  have hF6 := (hX9.set_ 0 (.int .i64 V)).set_ 1 (.slice a9 n9 c9)
  refine bodyPost_ret (results_rowP rfl _ _ (w.heap.size + 1 + 1 + 1) _ #[.int .i64 V, .slice a9 n9 c9] (0, 0) _ rfl hF6 Tryz.underlying42 rfl (by kernel_rfl)) rfl ?_
  exact PolyOut.stored hB9 hT9 (by omega) hg9 hs9
set_option maxRecDepth 100000 in
set_option maxHeartbeats 3200000 in
theorem Reckon_mul (gb : Nat) (d0 a0 b0 : Int) (v : UInt64) (P Q : Nat → Prop) (va : Int) (a b : Option Addr) (n c m d : Nat) (A B : List Tm) (w : World) (h : TOut P w a n c A) (h' : TOut Q w b m d B) (hQA : checkP va A = true) (hQB : checkP va B = true) (V : Int) (L : List Tm) (E : Int) (hV : mulV va A B = V) (hL : mulL va A B = L) (hE : mulE va A B = E) :
    Calls Tryz.prog 129 #[.pointer (some ⟨gb, 0, none⟩), .agg #[.int .i64 3, .int .i64 d0, .int .i64 a0, .int .i64 b0, .int .u64 (v.toNat : Int)], .agg #[.int .i64 va, .slice a n c], .agg #[.int .i64 va, .slice b m d]] w (PolyOut V L E w) := by
  obtain ⟨hX1, hX2, hX3, hX4, hb0, hz0⟩ := four_boxes w 89 42 42 42 #[.int .i64 3, .int .i64 d0, .int .i64 a0, .int .i64 b0, .int .u64 (v.toNat : Int)] #[.int .i64 va, .slice a n c] #[.int .i64 va, .slice b m d] #[.int .i64 0, .slice none 0 0]
  obtain ⟨W0, hW0⟩ : ∃ W0, ((((w.alloc (.cells #[.int .i64 3, .int .i64 d0, .int .i64 a0, .int .i64 b0, .int .u64 (v.toNat : Int)] 89)).alloc (.cells #[.int .i64 va, .slice a n c] 42)).alloc (.cells #[.int .i64 va, .slice b m d] 42)).alloc (.cells #[.int .i64 0, .slice none 0 0] 42)) = W0 := ⟨_, rfl⟩
  rw [hW0] at hX1 hX2 hX3 hX4 hb0 hz0
  obtain ⟨o0, o1, o2, o3, o4, o5, o6, o7, o8, o9⟩ := hX1.c5
  obtain ⟨p0, p1, p2, p3⟩ := hX2.c2
  obtain ⟨q0, q1, q2, q3⟩ := hX3.c2
  have HW0 := hide hW0
  have HA := hide (PMul_good P Q va a b n c m d A B W0 (h.belowN hb0) (h'.belowN hb0) hQA hQB V L E hV hL hE)
  clear hW0 hQA hQB h h' hV hL hE
  go_enter Tryz.func129, Tryz.ntmps129
  go_wp2_with (go_at_call 162; go_must ((rw [HW0.out]); (with_reducible refine (HA.out).mono ?_); rintro vv w9 ⟨a9, n9, c9, rfl, hT9, hb9⟩; have hX9 := hX4.belowN hb9; obtain ⟨x0, x1, x2, x3⟩ := hX9.c2))
  have hB9 := hb0.trans (hb9.mono hb0.size)
  have hg9 : w.heap.size + 1 + 1 + 1 < W0.heap.size := by omega
  have hs9 := hb0.size
  have hF6 := (hX9.set_ 0 (.int .i64 V)).set_ 1 (.slice a9 n9 c9)
  refine bodyPost_ret (results_rowP rfl _ _ (w.heap.size + 1 + 1 + 1) _ #[.int .i64 V, .slice a9 n9 c9] (0, 0) _ rfl hF6 Tryz.underlying42 rfl (by kernel_rfl)) rfl ?_
  exact PolyOut.stored hB9 hT9 (by omega) hg9 hs9
set_option maxRecDepth 100000 in
set_option maxHeartbeats 3200000 in
theorem Reckon_neg (gb : Nat) (d0 a0 b0 : Int) (v : UInt64) (P Q : Nat → Prop) (va : Int) (a b : Option Addr) (n c m d : Nat) (A B : List Tm) (w : World) (h : TOut P w a n c A) (h' : TOut Q w b m d B) (hQA : checkP va A = true) (hQB : checkP va B = true) (V : Int) (L : List Tm) (E : Int) (hV : mkV va (negT A) = V) (hL : mkL va (negT A) = L) (hE : mkE va (negT A) = E) :
    Calls Tryz.prog 129 #[.pointer (some ⟨gb, 0, none⟩), .agg #[.int .i64 4, .int .i64 d0, .int .i64 a0, .int .i64 b0, .int .u64 (v.toNat : Int)], .agg #[.int .i64 va, .slice a n c], .agg #[.int .i64 va, .slice b m d]] w (PolyOut V L E w) := by
  obtain ⟨hX1, hX2, hX3, hX4, hb0, hz0⟩ := four_boxes w 89 42 42 42 #[.int .i64 4, .int .i64 d0, .int .i64 a0, .int .i64 b0, .int .u64 (v.toNat : Int)] #[.int .i64 va, .slice a n c] #[.int .i64 va, .slice b m d] #[.int .i64 0, .slice none 0 0]
  obtain ⟨W0, hW0⟩ : ∃ W0, ((((w.alloc (.cells #[.int .i64 4, .int .i64 d0, .int .i64 a0, .int .i64 b0, .int .u64 (v.toNat : Int)] 89)).alloc (.cells #[.int .i64 va, .slice a n c] 42)).alloc (.cells #[.int .i64 va, .slice b m d] 42)).alloc (.cells #[.int .i64 0, .slice none 0 0] 42)) = W0 := ⟨_, rfl⟩
  rw [hW0] at hX1 hX2 hX3 hX4 hb0 hz0
  obtain ⟨o0, o1, o2, o3, o4, o5, o6, o7, o8, o9⟩ := hX1.c5
  obtain ⟨p0, p1, p2, p3⟩ := hX2.c2
  obtain ⟨q0, q1, q2, q3⟩ := hX3.c2
  have HW0 := hide hW0
  have HA := hide (PNeg_good P va a n c A W0 (h.belowN hb0) hQA V L E hV hL hE)
  clear hW0 hQA hQB h h' hV hL hE
  go_enter Tryz.func129, Tryz.ntmps129
  go_wp2_with (go_at_call 161; go_must ((rw [HW0.out]); (with_reducible refine (HA.out).mono ?_); rintro vv w9 ⟨a9, n9, c9, rfl, hT9, hb9⟩; have hX9 := hX4.belowN hb9; obtain ⟨x0, x1, x2, x3⟩ := hX9.c2))
  have hB9 := hb0.trans (hb9.mono hb0.size)
  have hg9 : w.heap.size + 1 + 1 + 1 < W0.heap.size := by omega
  have hs9 := hb0.size
  have hF6 := (hX9.set_ 0 (.int .i64 V)).set_ 1 (.slice a9 n9 c9)
  refine bodyPost_ret (results_rowP rfl _ _ (w.heap.size + 1 + 1 + 1) _ #[.int .i64 V, .slice a9 n9 c9] (0, 0) _ rfl hF6 Tryz.underlying42 rfl (by kernel_rfl)) rfl ?_
  exact PolyOut.stored hB9 hT9 (by omega) hg9 hs9
set_option maxRecDepth 100000 in
set_option maxHeartbeats 3200000 in
theorem Reckon_con (gb : Nat) (d0 a0 b0 : Int) (v : UInt64) (P Q : Nat → Prop) (va : Int) (a b : Option Addr) (n c m d : Nat) (A B : List Tm) (w : World) (h : TOut P w a n c A) (h' : TOut Q w b m d B) (hQA : checkP va A = true) (hQB : checkP va B = true) (V : Int) (L : List Tm) (E : Int) (bm bn : Value) (hbk : Blk w gb 159 #[.int .i64 va, bm, bn]) (hV : mkV va (constT va v) = V) (hL : mkL va (constT va v) = L) (hE : mkE va (constT va v) = E) :
    Calls Tryz.prog 129 #[.pointer (some ⟨gb, 0, none⟩), .agg #[.int .i64 5, .int .i64 d0, .int .i64 a0, .int .i64 b0, .int .u64 (v.toNat : Int)], .agg #[.int .i64 va, .slice a n c], .agg #[.int .i64 va, .slice b m d]] w (PolyOut V L E w) := by
  obtain ⟨hX1, hX2, hX3, hX4, hb0, hz0⟩ := four_boxes w 89 42 42 42 #[.int .i64 5, .int .i64 d0, .int .i64 a0, .int .i64 b0, .int .u64 (v.toNat : Int)] #[.int .i64 va, .slice a n c] #[.int .i64 va, .slice b m d] #[.int .i64 0, .slice none 0 0]
  have hbk0 := hbk.belowN hb0
  have hn1 : w.heap.size + 1 + 1 + 1 ≠ gb := by have := hbk.lt; omega
  have hn2 : w.heap.size + 1 + 1 + 1 ≠ w.heap.size := by omega
  have hbk1 := hbk0
  obtain ⟨k0, k1, k2, k3, k4, k5⟩ := hbk0.c3
  obtain ⟨W0, hW0⟩ : ∃ W0, ((((w.alloc (.cells #[.int .i64 5, .int .i64 d0, .int .i64 a0, .int .i64 b0, .int .u64 (v.toNat : Int)] 89)).alloc (.cells #[.int .i64 va, .slice a n c] 42)).alloc (.cells #[.int .i64 va, .slice b m d] 42)).alloc (.cells #[.int .i64 0, .slice none 0 0] 42)) = W0 := ⟨_, rfl⟩
  rw [hW0] at hbk1 hX1 hX2 hX3 hX4 hb0 hz0
  obtain ⟨o0, o1, o2, o3, o4, o5, o6, o7, o8, o9⟩ := hX1.c5
  obtain ⟨p0, p1, p2, p3⟩ := hX2.c2
  obtain ⟨q0, q1, q2, q3⟩ := hX3.c2
  have HW0 := hide hW0
  have HA := hide (fun (W : World) => PConst_calls va v W V L E hV hL hE)
  clear hW0 hQA hQB h h' hV hL hE hbk hbk0
  go_enter Tryz.func129, Tryz.ntmps129
  go_wp2
  go_region_held3 (fun w' => w'.cell? ⟨w.heap.size, 4, none⟩ = some (.int .u64 (v.toNat : Int)) ∧ w'.cell? ⟨gb, 0, none⟩ = some (.int .i64 va)) (go_keep) (first | (go_at_call 111; go_must ((rw [HW0.out]); (with_reducible refine (HA.out W0.drew).mono ?_); rintro vv w9 ⟨a9, n9, c9, rfl, hT9, hb9x⟩; have hb9 : Below W0.heap.size W0 w9 := (Below.drew (Below.refl W0.heap.size W0)).trans hb9x; obtain ⟨r0, r1, r2, r3, r4, r5, r6, r7, r8, r9⟩ := (hX1.belowN hb9).c5; obtain ⟨l0, l1, l2, l3, l4, l5⟩ := (hbk1.belowN hb9).c3; have hX9 := hX4.belowN hb9; obtain ⟨x0, x1, x2, x3⟩ := hX9.c2)))
  go_wp2
  have hB9 := hb0.trans (hb9.mono hb0.size)
  have hg9 : w.heap.size + 1 + 1 + 1 < W0.heap.size := by omega
  have hs9 := hb0.size
  have hF6 := (hX9.set_ 0 (.int .i64 V)).set_ 1 (.slice a9 n9 c9)
  refine bodyPost_ret (results_rowP rfl _ _ (w.heap.size + 1 + 1 + 1) _ #[.int .i64 V, .slice a9 n9 c9] (0, 0) _ rfl hF6 Tryz.underlying42 rfl (by kernel_rfl)) rfl ?_
  exact PolyOut.stored hB9 hT9 (by omega) hg9 hs9
set_option maxRecDepth 100000 in
set_option maxHeartbeats 3200000 in
theorem Does15_add (gb : Nat) (d0 a0 b0 : Int) (v : UInt64) (P Q : Nat → Prop) (va : Int) (a b : Option Addr) (n c m d : Nat) (A B : List Tm) (w : World) (h : TOut P w a n c A) (h' : TOut Q w b m d B) (hQA : checkP va A = true) (hQB : checkP va B = true) (V : Int) (L : List Tm) (E : Int) (hV : mkV va (A ++ B) = V) (hL : mkL va (A ++ B) = L) (hE : mkE va (A ++ B) = E) :
    Calls Tryz.prog 92 #[.agg #[.int .i64 1, .int .i64 d0, .int .i64 a0, .int .i64 b0, .int .u64 (v.toNat : Int)], .int .i64 va, .agg #[.int .i64 va, .slice a n c], .agg #[.int .i64 va, .slice b m d]] w (PolyOut V L E w) := by
  obtain ⟨hX1, hX2, hX3, hX4, hb0, hz0⟩ := four_boxes w 89 42 42 42 #[.int .i64 1, .int .i64 d0, .int .i64 a0, .int .i64 b0, .int .u64 (v.toNat : Int)] #[.int .i64 va, .slice a n c] #[.int .i64 va, .slice b m d] #[.int .i64 0, .slice none 0 0]
  obtain ⟨W0, hW0⟩ : ∃ W0, ((((w.alloc (.cells #[.int .i64 1, .int .i64 d0, .int .i64 a0, .int .i64 b0, .int .u64 (v.toNat : Int)] 89)).alloc (.cells #[.int .i64 va, .slice a n c] 42)).alloc (.cells #[.int .i64 va, .slice b m d] 42)).alloc (.cells #[.int .i64 0, .slice none 0 0] 42)) = W0 := ⟨_, rfl⟩
  rw [hW0] at hX1 hX2 hX3 hX4 hb0 hz0
  obtain ⟨o0, o1, o2, o3, o4, o5, o6, o7, o8, o9⟩ := hX1.c5
  obtain ⟨p0, p1, p2, p3⟩ := hX2.c2
  obtain ⟨q0, q1, q2, q3⟩ := hX3.c2
  have HW0 := hide hW0
  have HA := hide (RAdd_good P Q va a b n c m d A B W0 (h.belowN hb0) (h'.belowN hb0) hQA hQB V L E hV hL hE)
  clear hW0 hQA hQB h h' hV hL hE
  go_enter Tryz.func92, Tryz.ntmps92
  go_wp2_with (go_at_call 133; go_must ((rw [HW0.out]); (with_reducible refine (HA.out).mono ?_); rintro vv w9 ⟨a9, n9, c9, rfl, hT9, hb9⟩; have hX9 := hX4.belowN hb9; obtain ⟨x0, x1, x2, x3⟩ := hX9.c2))
  have hB9 := hb0.trans (hb9.mono hb0.size)
  have hg9 : w.heap.size + 1 + 1 + 1 < W0.heap.size := by omega
  have hs9 := hb0.size
  have hF6 := (hX9.set_ 0 (.int .i64 V)).set_ 1 (.slice a9 n9 c9)
  refine bodyPost_ret (results_rowP rfl _ _ (w.heap.size + 1 + 1 + 1) _ #[.int .i64 V, .slice a9 n9 c9] (0, 0) _ rfl hF6 Tryz.underlying42 rfl (by kernel_rfl)) rfl ?_
  exact PolyOut.stored hB9 hT9 (by omega) hg9 hs9
set_option maxRecDepth 100000 in
set_option maxHeartbeats 3200000 in
theorem Does15_sub (gb : Nat) (d0 a0 b0 : Int) (v : UInt64) (P Q : Nat → Prop) (va : Int) (a b : Option Addr) (n c m d : Nat) (A B : List Tm) (w : World) (h : TOut P w a n c A) (h' : TOut Q w b m d B) (hQA : checkP va A = true) (hQB : checkP va B = true) (V : Int) (L : List Tm) (E : Int) (hV : mkV va (A ++ sortT (negT B)) = V) (hL : mkL va (A ++ sortT (negT B)) = L) (hE : mkE va (A ++ sortT (negT B)) = E) :
    Calls Tryz.prog 92 #[.agg #[.int .i64 2, .int .i64 d0, .int .i64 a0, .int .i64 b0, .int .u64 (v.toNat : Int)], .int .i64 va, .agg #[.int .i64 va, .slice a n c], .agg #[.int .i64 va, .slice b m d]] w (PolyOut V L E w) := by
  obtain ⟨e1, e2, e3, e4⟩ := neg_facts hQB
  obtain ⟨hX1, hX2, hX3, hX4, hb0, hz0⟩ := four_boxes w 89 42 42 42 #[.int .i64 2, .int .i64 d0, .int .i64 a0, .int .i64 b0, .int .u64 (v.toNat : Int)] #[.int .i64 va, .slice a n c] #[.int .i64 va, .slice b m d] #[.int .i64 0, .slice none 0 0]
  obtain ⟨W0, hW0⟩ : ∃ W0, ((((w.alloc (.cells #[.int .i64 2, .int .i64 d0, .int .i64 a0, .int .i64 b0, .int .u64 (v.toNat : Int)] 89)).alloc (.cells #[.int .i64 va, .slice a n c] 42)).alloc (.cells #[.int .i64 va, .slice b m d] 42)).alloc (.cells #[.int .i64 0, .slice none 0 0] 42)) = W0 := ⟨_, rfl⟩
  rw [hW0] at hX1 hX2 hX3 hX4 hb0 hz0
  obtain ⟨o0, o1, o2, o3, o4, o5, o6, o7, o8, o9⟩ := hX1.c5
  obtain ⟨p0, p1, p2, p3⟩ := hX2.c2
  obtain ⟨q0, q1, q2, q3⟩ := hX3.c2
  have HW0 := hide hW0
  obtain ⟨M, hM⟩ : ∃ M, sortT (negT B) = M := ⟨_, rfl⟩
  rw [hM] at hV hL hE e3 e4
  have HA := hide (RNeg3_good Q va b m d B W0 (h'.belowN hb0) hQB va M 0 e2 e3 e1)
  have HB := hide (fun (W : World) (kk : Below W0.heap.size W0 W) (a2 : Option Addr) (n2 c2 : Nat) (kT : TOut (fun q => W0.heap.size ≤ q) W a2 n2 c2 M) => RAdd_good P (fun q => W0.heap.size ≤ q) va a a2 n c n2 c2 A M W ((h.belowN hb0).belowN kk) kT hQA e4 V L E hV hL hE)
  clear hW0 hQA hQB h h' hV hL hE hM e1 e2 e3 e4
  go_enter Tryz.func92, Tryz.ntmps92
  go_wp2_with (first
    | (go_at_call 133; go_must ((with_reducible refine (HB.out _ hb2 _ _ _ hT2).mono ?_); rintro vv w9 ⟨a9, n9, c9, rfl, hT9, hb9⟩; have hB8 := hb2.trans (hb9.mono hb2.size); have hX9 := hX4.belowN hB8; obtain ⟨x0, x1, x2, x3⟩ := hX9.c2))
    | (go_at_call 134; go_must ((rw [HW0.out]); (with_reducible refine (HA.out).mono ?_); rintro vv w1 ⟨a1, n1, c1, rfl, hT1, hb1⟩; have hb2 := hb1.alloc hb1.size (.cells #[.int .i64 va, .slice a1 n1 c1] 42); have hT2 := hT1.belowN (below_box w1 (.cells #[.int .i64 va, .slice a1 n1 c1] 42)); have hN := Blk.new w1 42 #[.int .i64 va, .slice a1 n1 c1]; obtain ⟨y0, y1, y2, y3⟩ := hN.c2; obtain ⟨p4, p5, p6, p7⟩ := (hX2.belowN hb2).c2; obtain ⟨x4, x5, x6, x7⟩ := (hX4.belowN hb2).c2; have hzz := hb1.size)))
  have hB9 := hb0.trans (hB8.mono hb0.size)
  have hg9 : w.heap.size + 1 + 1 + 1 < (w1.alloc (.cells #[.int .i64 va, .slice a1 n1 c1] 42)).heap.size := by have := hb2.size; omega
  have hs9 := Nat.le_trans hb0.size hb2.size
  have hF6 := (hX9.set_ 0 (.int .i64 V)).set_ 1 (.slice a9 n9 c9)
  refine bodyPost_ret (results_rowP rfl _ _ (w.heap.size + 1 + 1 + 1) _ #[.int .i64 V, .slice a9 n9 c9] (0, 0) _ rfl hF6 Tryz.underlying42 rfl (by kernel_rfl)) rfl ?_
  exact PolyOut.stored hB9 hT9 (by omega) hg9 hs9
set_option maxRecDepth 100000 in
set_option maxHeartbeats 3200000 in
theorem Does15_mul (gb : Nat) (d0 a0 b0 : Int) (v : UInt64) (P Q : Nat → Prop) (va : Int) (a b : Option Addr) (n c m d : Nat) (A B : List Tm) (w : World) (h : TOut P w a n c A) (h' : TOut Q w b m d B) (hQA : checkP va A = true) (hQB : checkP va B = true) (V : Int) (L : List Tm) (E : Int) (hV : mulV va A B = V) (hL : mulL va A B = L) (hE : mulE va A B = E) :
    Calls Tryz.prog 92 #[.agg #[.int .i64 3, .int .i64 d0, .int .i64 a0, .int .i64 b0, .int .u64 (v.toNat : Int)], .int .i64 va, .agg #[.int .i64 va, .slice a n c], .agg #[.int .i64 va, .slice b m d]] w (PolyOut V L E w) := by
  obtain ⟨hX1, hX2, hX3, hX4, hb0, hz0⟩ := four_boxes w 89 42 42 42 #[.int .i64 3, .int .i64 d0, .int .i64 a0, .int .i64 b0, .int .u64 (v.toNat : Int)] #[.int .i64 va, .slice a n c] #[.int .i64 va, .slice b m d] #[.int .i64 0, .slice none 0 0]
  obtain ⟨W0, hW0⟩ : ∃ W0, ((((w.alloc (.cells #[.int .i64 3, .int .i64 d0, .int .i64 a0, .int .i64 b0, .int .u64 (v.toNat : Int)] 89)).alloc (.cells #[.int .i64 va, .slice a n c] 42)).alloc (.cells #[.int .i64 va, .slice b m d] 42)).alloc (.cells #[.int .i64 0, .slice none 0 0] 42)) = W0 := ⟨_, rfl⟩
  rw [hW0] at hX1 hX2 hX3 hX4 hb0 hz0
  obtain ⟨o0, o1, o2, o3, o4, o5, o6, o7, o8, o9⟩ := hX1.c5
  obtain ⟨p0, p1, p2, p3⟩ := hX2.c2
  obtain ⟨q0, q1, q2, q3⟩ := hX3.c2
  have HW0 := hide hW0
  have HA := hide (RMul3_good P Q va a b n c m d A B W0 (h.belowN hb0) (h'.belowN hb0) hQA hQB V L E hV hL hE)
  clear hW0 hQA hQB h h' hV hL hE
  go_enter Tryz.func92, Tryz.ntmps92
  go_wp2_with (go_at_call 135; go_must ((rw [HW0.out]); (with_reducible refine (HA.out).mono ?_); rintro vv w9 ⟨a9, n9, c9, rfl, hT9, hb9⟩; have hX9 := hX4.belowN hb9; obtain ⟨x0, x1, x2, x3⟩ := hX9.c2))
  have hB9 := hb0.trans (hb9.mono hb0.size)
  have hg9 : w.heap.size + 1 + 1 + 1 < W0.heap.size := by omega
  have hs9 := hb0.size
  have hF6 := (hX9.set_ 0 (.int .i64 V)).set_ 1 (.slice a9 n9 c9)
  refine bodyPost_ret (results_rowP rfl _ _ (w.heap.size + 1 + 1 + 1) _ #[.int .i64 V, .slice a9 n9 c9] (0, 0) _ rfl hF6 Tryz.underlying42 rfl (by kernel_rfl)) rfl ?_
  exact PolyOut.stored hB9 hT9 (by omega) hg9 hs9
set_option maxRecDepth 100000 in
set_option maxHeartbeats 3200000 in
theorem Does15_neg (gb : Nat) (d0 a0 b0 : Int) (v : UInt64) (P Q : Nat → Prop) (va : Int) (a b : Option Addr) (n c m d : Nat) (A B : List Tm) (w : World) (h : TOut P w a n c A) (h' : TOut Q w b m d B) (hQA : checkP va A = true) (hQB : checkP va B = true) (V : Int) (L : List Tm) (E : Int) (hV : mkV va (negT A) = V) (hL : mkL va (negT A) = L) (hE : mkE va (negT A) = E) :
    Calls Tryz.prog 92 #[.agg #[.int .i64 4, .int .i64 d0, .int .i64 a0, .int .i64 b0, .int .u64 (v.toNat : Int)], .int .i64 va, .agg #[.int .i64 va, .slice a n c], .agg #[.int .i64 va, .slice b m d]] w (PolyOut V L E w) := by
  obtain ⟨hX1, hX2, hX3, hX4, hb0, hz0⟩ := four_boxes w 89 42 42 42 #[.int .i64 4, .int .i64 d0, .int .i64 a0, .int .i64 b0, .int .u64 (v.toNat : Int)] #[.int .i64 va, .slice a n c] #[.int .i64 va, .slice b m d] #[.int .i64 0, .slice none 0 0]
  obtain ⟨W0, hW0⟩ : ∃ W0, ((((w.alloc (.cells #[.int .i64 4, .int .i64 d0, .int .i64 a0, .int .i64 b0, .int .u64 (v.toNat : Int)] 89)).alloc (.cells #[.int .i64 va, .slice a n c] 42)).alloc (.cells #[.int .i64 va, .slice b m d] 42)).alloc (.cells #[.int .i64 0, .slice none 0 0] 42)) = W0 := ⟨_, rfl⟩
  rw [hW0] at hX1 hX2 hX3 hX4 hb0 hz0
  obtain ⟨o0, o1, o2, o3, o4, o5, o6, o7, o8, o9⟩ := hX1.c5
  obtain ⟨p0, p1, p2, p3⟩ := hX2.c2
  obtain ⟨q0, q1, q2, q3⟩ := hX3.c2
  have HW0 := hide hW0
  have HA := hide (RNeg3_good P va a n c A W0 (h.belowN hb0) hQA V L E hV hL hE)
  clear hW0 hQA hQB h h' hV hL hE
  go_enter Tryz.func92, Tryz.ntmps92
  go_wp2_with (go_at_call 134; go_must ((rw [HW0.out]); (with_reducible refine (HA.out).mono ?_); rintro vv w9 ⟨a9, n9, c9, rfl, hT9, hb9⟩; have hX9 := hX4.belowN hb9; obtain ⟨x0, x1, x2, x3⟩ := hX9.c2))
  have hB9 := hb0.trans (hb9.mono hb0.size)
  have hg9 : w.heap.size + 1 + 1 + 1 < W0.heap.size := by omega
  have hs9 := hb0.size
  have hF6 := (hX9.set_ 0 (.int .i64 V)).set_ 1 (.slice a9 n9 c9)
  refine bodyPost_ret (results_rowP rfl _ _ (w.heap.size + 1 + 1 + 1) _ #[.int .i64 V, .slice a9 n9 c9] (0, 0) _ rfl hF6 Tryz.underlying42 rfl (by kernel_rfl)) rfl ?_
  exact PolyOut.stored hB9 hT9 (by omega) hg9 hs9
set_option maxRecDepth 100000 in
set_option maxHeartbeats 3200000 in
theorem Does15_con (gb : Nat) (d0 a0 b0 : Int) (v : UInt64) (P Q : Nat → Prop) (va : Int) (a b : Option Addr) (n c m d : Nat) (A B : List Tm) (w : World) (h : TOut P w a n c A) (h' : TOut Q w b m d B) (hQA : checkP va A = true) (hQB : checkP va B = true) (V : Int) (L : List Tm) (E : Int) (hV : mkV va (constT va v) = V) (hL : mkL va (constT va v) = L) (hE : mkE va (constT va v) = E) :
    Calls Tryz.prog 92 #[.agg #[.int .i64 5, .int .i64 d0, .int .i64 a0, .int .i64 b0, .int .u64 (v.toNat : Int)], .int .i64 va, .agg #[.int .i64 va, .slice a n c], .agg #[.int .i64 va, .slice b m d]] w (PolyOut V L E w) := by
  obtain ⟨hX1, hX2, hX3, hX4, hb0, hz0⟩ := four_boxes w 89 42 42 42 #[.int .i64 5, .int .i64 d0, .int .i64 a0, .int .i64 b0, .int .u64 (v.toNat : Int)] #[.int .i64 va, .slice a n c] #[.int .i64 va, .slice b m d] #[.int .i64 0, .slice none 0 0]
  obtain ⟨W0, hW0⟩ : ∃ W0, ((((w.alloc (.cells #[.int .i64 5, .int .i64 d0, .int .i64 a0, .int .i64 b0, .int .u64 (v.toNat : Int)] 89)).alloc (.cells #[.int .i64 va, .slice a n c] 42)).alloc (.cells #[.int .i64 va, .slice b m d] 42)).alloc (.cells #[.int .i64 0, .slice none 0 0] 42)) = W0 := ⟨_, rfl⟩
  rw [hW0] at hX1 hX2 hX3 hX4 hb0 hz0
  obtain ⟨o0, o1, o2, o3, o4, o5, o6, o7, o8, o9⟩ := hX1.c5
  obtain ⟨p0, p1, p2, p3⟩ := hX2.c2
  obtain ⟨q0, q1, q2, q3⟩ := hX3.c2
  have HW0 := hide hW0
  have HA := hide (RConst_calls va v W0 V L E hV hL hE)
  clear hW0 hQA hQB h h' hV hL hE
  go_enter Tryz.func92, Tryz.ntmps92
  go_wp2_with (go_at_call 113; go_must ((rw [HW0.out]); (with_reducible refine (HA.out).mono ?_); rintro vv w9 ⟨a9, n9, c9, rfl, hT9, hb9⟩; have hX9 := hX4.belowN hb9; obtain ⟨x0, x1, x2, x3⟩ := hX9.c2))
  have hB9 := hb0.trans (hb9.mono hb0.size)
  have hg9 : w.heap.size + 1 + 1 + 1 < W0.heap.size := by omega
  have hs9 := hb0.size
  have hF6 := (hX9.set_ 0 (.int .i64 V)).set_ 1 (.slice a9 n9 c9)
  refine bodyPost_ret (results_rowP rfl _ _ (w.heap.size + 1 + 1 + 1) _ #[.int .i64 V, .slice a9 n9 c9] (0, 0) _ rfl hF6 Tryz.underlying42 rfl (by kernel_rfl)) rfl ?_
  exact PolyOut.stored hB9 hT9 (by omega) hg9 hs9
end Go.Proofs.YtcamcnahkdiefaaGreat

/- What an operation makes of two polynomials, whatever its kind. -/
namespace Go.Proofs.YtcamcnahkdiefaaGreat
set_option linter.unusedVariables false
set_option linter.unusedSimpArgs false
open Go.RowKit
set_option maxRecDepth 100000 in
set_option maxHeartbeats 3200000 in
theorem Does15_cpy (d0 a0 b0 : Int) (v : UInt64) (P : Nat → Prop) (va : Int) (a b : Option Addr) (n c m d : Nat) (A : List Tm) (w : World) (h : TOut P w a n c A) :
    Calls Tryz.prog 92 #[.agg #[.int .i64 6, .int .i64 d0, .int .i64 a0, .int .i64 b0, .int .u64 (v.toNat : Int)], .int .i64 va, .agg #[.int .i64 va, .slice a n c], .agg #[.int .i64 va, .slice b m d]] w (PolyAny P va A 0 w) := by
  obtain ⟨hX1, hX2, hX3, hX4, hb0, hz0⟩ := four_boxes w 89 42 42 42 #[.int .i64 6, .int .i64 d0, .int .i64 a0, .int .i64 b0, .int .u64 (v.toNat : Int)] #[.int .i64 va, .slice a n c] #[.int .i64 va, .slice b m d] #[.int .i64 va, .slice a n c]
  have H := hide (h.belowN hb0)
  clear h
  go_enter Tryz.func92, Tryz.ntmps92
  go_wp2
  refine bodyPost_ret (results_rowP rfl _ _ (w.heap.size + 1 + 1 + 1) _ #[.int .i64 va, .slice a n c] (0, 0) _ rfl hX4 Tryz.underlying42 rfl (by kernel_rfl)) rfl ?_
  exact ⟨a, n, c, rfl, H.out.imp fun q hq => .inl hq, hb0⟩
theorem Does15_calls (k d0 a0 b0 : Int) (v : UInt64) (hk : 1 ≤ k ∧ k ≤ 6) (P : Nat → Prop) (va : Int) (a b : Option Addr) (n c m d : Nat) (A B : List Tm) (w : World) (h : TOut P w a n c A) (h' : TOut P w b m d B) (hQA : checkP va A = true) (hQB : checkP va B = true)
    (V : Int) (L : List Tm) (E : Int) (hV : symV va k v A B = V) (hL : symL va k v A B = L) (hE : symE va k v A B = E) :
    Calls Tryz.prog 92 #[.agg #[.int .i64 k, .int .i64 d0, .int .i64 a0, .int .i64 b0, .int .u64 (v.toNat : Int)], .int .i64 va, .agg #[.int .i64 va, .slice a n c], .agg #[.int .i64 va, .slice b m d]] w (PolyAny P V L E w) := by
  have hc : k = 1 ∨ k = 2 ∨ k = 3 ∨ k = 4 ∨ k = 5 ∨ k = 6 := by omega
  rcases hc with rfl | rfl | rfl | rfl | rfl | rfl
  · exact (Does15_add 0 d0 a0 b0 v P P va a b n c m d A B w h h' hQA hQB V L E hV hL hE).mono fun e w' hh => hh.any P
  · exact (Does15_sub 0 d0 a0 b0 v P P va a b n c m d A B w h h' hQA hQB V L E hV hL hE).mono fun e w' hh => hh.any P
  · exact (Does15_mul 0 d0 a0 b0 v P P va a b n c m d A B w h h' hQA hQB V L E hV hL hE).mono fun e w' hh => hh.any P
  · exact (Does15_neg 0 d0 a0 b0 v P P va a b n c m d A B w h h' hQA hQB V L E hV hL hE).mono fun e w' hh => hh.any P
  · exact (Does15_con 0 d0 a0 b0 v P P va a b n c m d A B w h h' hQA hQB V L E hV hL hE).mono fun e w' hh => hh.any P
  · have e1 : symV va 6 v A B = va := rfl
    have e2 : symL va 6 v A B = A := rfl
    have e3 : symE va 6 v A B = 0 := rfl
    rw [← hV, ← hL, ← hE, e1, e2, e3]
    exact Does15_cpy d0 a0 b0 v P va a b n c m d A w h
theorem Reckon_calls (gb : Nat) (k d0 a0 b0 : Int) (v : UInt64) (hk : 1 ≤ k ∧ k ≤ 5) (P Q : Nat → Prop) (va : Int) (a b : Option Addr) (n c m d : Nat) (A B : List Tm) (w : World) (h : TOut P w a n c A) (h' : TOut Q w b m d B) (hQA : checkP va A = true) (hQB : checkP va B = true)
    (bm bn : Value) (hbk : Blk w gb 159 #[.int .i64 va, bm, bn]) (V : Int) (L : List Tm) (E : Int) (hV : symV va k v A B = V) (hL : symL va k v A B = L) (hE : symE va k v A B = E) :
    Calls Tryz.prog 129 #[.pointer (some ⟨gb, 0, none⟩), .agg #[.int .i64 k, .int .i64 d0, .int .i64 a0, .int .i64 b0, .int .u64 (v.toNat : Int)], .agg #[.int .i64 va, .slice a n c], .agg #[.int .i64 va, .slice b m d]] w (PolyOut V L E w) := by
  have hc : k = 1 ∨ k = 2 ∨ k = 3 ∨ k = 4 ∨ k = 5 := by omega
  rcases hc with rfl | rfl | rfl | rfl | rfl
  · exact Reckon_add gb d0 a0 b0 v P Q va a b n c m d A B w h h' hQA hQB V L E hV hL hE
  · exact Reckon_sub gb d0 a0 b0 v P Q va a b n c m d A B w h h' hQA hQB V L E hV hL hE
  · exact Reckon_mul gb d0 a0 b0 v P Q va a b n c m d A B w h h' hQA hQB V L E hV hL hE
  · exact Reckon_neg gb d0 a0 b0 v P Q va a b n c m d A B w h h' hQA hQB V L E hV hL hE
  · exact Reckon_con gb d0 a0 b0 v P Q va a b n c m d A B w h h' hQA hQB V L E bm bn hbk hV hL hE
theorem mk_fine {va : Int} {l : List Tm} (h : mkE va l = 0) : mkV va l = va ∧ checkP va (mkL va l) = true := by
  obtain ⟨e1, e2, _, _, _, e3⟩ := mk_ok0 h
  exact ⟨e1, by rw [e2]; exact e3⟩
theorem sym_fine {va k : Int} {v : UInt64} {A B : List Tm} (hA : checkP va A = true) (h : symE va k v A B = 0) : symV va k v A B = va ∧ checkP va (symL va k v A B) = true := by
  unfold symE at h
  unfold symV symL
  split at h
  · rename_i hk; rw [if_pos hk, if_pos hk]; exact mk_fine h
  rename_i h1; rw [if_neg h1, if_neg h1]
  split at h
  · rename_i hk; rw [if_pos hk, if_pos hk]; exact mk_fine h
  rename_i h2; rw [if_neg h2, if_neg h2]
  split at h
  · rename_i hk; rw [if_pos hk, if_pos hk]
    unfold mulE at h
    split at h
    · rename_i hr
      unfold mulV mulL
      rw [if_pos hr, if_pos hr]; exact mk_fine h
    · cases h
  rename_i h3; rw [if_neg h3, if_neg h3]
  split at h
  · rename_i hk; rw [if_pos hk, if_pos hk]; exact mk_fine h
  rename_i h4; rw [if_neg h4, if_neg h4]
  split at h
  · rename_i hk; rw [if_pos hk, if_pos hk]; exact mk_fine h
  rename_i h5; rw [if_neg h5, if_neg h5]
  exact ⟨rfl, hA⟩
def runS (va : Int) : List OpD → List (List Tm) → Int × List (List Tm)
  | [], r => (0, r)
  | x :: l, r => if symE va x.kind x.v (r.getD x.a.toNat []) (r.getD x.b.toNat []) = 0 then runS va l (r.set x.d.toNat (symL va x.kind x.v (r.getD x.a.toNat []) (r.getD x.b.toNat []))) else (symE va x.kind x.v (r.getD x.a.toNat []) (r.getD x.b.toNat []), [])
def AllP (va : Int) (r : List (List Tm)) : Prop := ∀ L ∈ r, checkP va L = true
theorem AllP.get {va : Int} {r : List (List Tm)} (h : AllP va r) {k : Nat} (hk : k < r.length) : checkP va (r.getD k []) = true := by
  rw [List.getD_eq_getElem?_getD, List.getElem?_eq_getElem hk]
  exact h _ (List.getElem_mem hk)
theorem AllP.set {va : Int} {r : List (List Tm)} (h : AllP va r) {L : List Tm} (hL : checkP va L = true) (k : Nat) : AllP va (r.set k L) := fun M hM => by
  rcases List.mem_or_eq_of_mem_set hM with h1 | h1
  · exact h M h1
  · rw [h1]; exact hL
structure PoH where
  v : Int
  a : Option Addr
  n : Nat
  c : Nat
instance : Flat PoH := ⟨2, fun x => [.int .i64 x.v, .slice x.a x.n x.c], fun _ => rfl, fun x u hu => by simp at hu; rcases hu with rfl | rfl <;> rfl, by decide⟩
instance : Inhabited PoH := ⟨⟨0, none, 0, 0⟩⟩
structure StH where
  v : Int
  a : Option Addr
  n : Nat
  c : Nat
  k : Int
instance : Flat StH := ⟨3, fun x => [.int .i64 x.v, .slice x.a x.n x.c, .int .i64 x.k], fun _ => rfl, fun x u hu => by simp at hu; rcases hu with rfl | rfl | rfl <;> rfl, by decide⟩
instance : Inhabited StH := ⟨⟨0, none, 0, 0, 0⟩⟩
def PsAt (P : Nat → Prop) (w : World) (va : Int) (hs : List PoH) (r : List (List Tm)) : Prop := hs.length = r.length ∧ ∀ (i : Nat) (h : PoH) (L : List Tm), hs[i]? = some h → r[i]? = some L → h.v = va ∧ TOut P w h.a h.n h.c L
theorem PsAt.belowN {P : Nat → Prop} {w w' : World} {va : Int} {hs : List PoH} {r : List (List Tm)} (h : PsAt P w va hs r) (hb : Below w.heap.size w w') : PsAt P w' va hs r := ⟨h.1, fun i y L e1 e2 => ⟨(h.2 i y L e1 e2).1, (h.2 i y L e1 e2).2.belowN hb⟩⟩
theorem PsAt.imp {P Q : Nat → Prop} {w : World} {va : Int} {hs : List PoH} {r : List (List Tm)} (h : PsAt P w va hs r) (hi : ∀ q, P q → Q q) : PsAt Q w va hs r := ⟨h.1, fun i y L e1 e2 => ⟨(h.2 i y L e1 e2).1, (h.2 i y L e1 e2).2.imp hi⟩⟩
theorem PsAt.grown {P : Nat → Prop} {w w' : World} {va : Int} {hs : List PoH} {r : List (List Tm)} {row : Option Nat} (h : PsAt P w va hs r) (hgr : w.grownBy w' row) (hg : ∀ g, row = some g → ¬ P g) : PsAt P w' va hs r := ⟨h.1, fun i y L e1 e2 => ⟨(h.2 i y L e1 e2).1, (h.2 i y L e1 e2).2.grown hgr hg⟩⟩
theorem PsAt.bounded {P : Nat → Prop} {w : World} {va : Int} {hs : List PoH} {r : List (List Tm)} (h : PsAt P w va hs r) : PsAt (fun q => P q ∧ q < w.heap.size) w va hs r := ⟨h.1, fun i y L e1 e2 => ⟨(h.2 i y L e1 e2).1, (h.2 i y L e1 e2).2.bounded⟩⟩
theorem PsAt.nil (P : Nat → Prop) (w : World) (va : Int) : PsAt P w va [] [] := ⟨rfl, fun i h L e => by simp at e⟩
theorem PsAt.push {P : Nat → Prop} {w : World} {va : Int} {hs : List PoH} {r : List (List Tm)} (h : PsAt P w va hs r) {y : PoH} {L : List Tm} (hv : y.v = va) (hT : TOut P w y.a y.n y.c L) : PsAt P w va (hs ++ [y]) (r ++ [L]) := by
  refine ⟨by simp [h.1], fun i z M e1 e2 => ?_⟩
  by_cases hi : i < hs.length
  · rw [List.getElem?_append_left hi] at e1
    rw [List.getElem?_append_left (by rw [← h.1]; exact hi)] at e2
    exact h.2 i z M e1 e2
  · have h0 : i = hs.length := by
      have := List.getElem?_eq_some_iff.1 e1
      obtain ⟨h1, _⟩ := this
      simp at h1; omega
    subst h0
    rw [List.getElem?_append_right (Nat.le_refl _)] at e1
    rw [h.1, List.getElem?_append_right (Nat.le_refl _)] at e2
    simp at e1 e2
    subst e1 e2
    exact ⟨hv, hT⟩
theorem PsAt.set {P : Nat → Prop} {w : World} {va : Int} {hs : List PoH} {r : List (List Tm)} (h : PsAt P w va hs r) {y : PoH} {L : List Tm} (k : Nat) (hv : y.v = va) (hT : TOut P w y.a y.n y.c L) : PsAt P w va (hs.set k y) (r.set k L) := by
  refine ⟨by simp [h.1], fun i z M e1 e2 => ?_⟩
  by_cases hi : k = i
  · subst hi
    rw [List.getElem?_set] at e1 e2
    simp at e1 e2
    obtain ⟨_, rfl⟩ := e1
    obtain ⟨_, rfl⟩ := e2
    exact ⟨hv, hT⟩
  · rw [List.getElem?_set_ne hi] at e1 e2
    exact h.2 i z M e1 e2
theorem PsAt.get {P : Nat → Prop} {w : World} {va : Int} {hs : List PoH} {r : List (List Tm)} (h : PsAt P w va hs r) {k : Nat} {y : PoH} (hy : hs[k]? = some y) : y.v = va ∧ TOut P w y.a y.n y.c (r.getD k []) := by
  have hk : k < r.length := by rw [← h.1]; exact (List.getElem?_eq_some_iff.1 hy).1
  refine h.2 k y _ hy ?_
  rw [List.getD_eq_getElem?_getD, List.getElem?_eq_getElem hk]
  rfl
end Go.Proofs.YtcamcnahkdiefaaGreat

/- The document's run of operations on polynomials. -/
namespace Go.Proofs.YtcamcnahkdiefaaGreat
set_option linter.unusedVariables false
set_option linter.unusedSimpArgs false
open Go.RowKit
theorem tyPo : Ty Tryz.prog 27 42 PoH := Ty.of (z := .agg #[.int .i64 0, .slice none 0 0]) (size := 2) (bytes := 32) Tryz.underlying27 (by kernel_rfl) rfl (by decide) rfl
theorem At.getPo {w wr : World} {a : Option Addr} {l : List PoH} (h : At w a l) (hb : Below w.heap.size w wr) {k : Nat} (hk : k < l.length) :
    ∃ b off x, a = some ⟨b, off, none⟩ ∧ Hid (l[k]? = some x) ∧ wr.cell? ⟨b, off + k * 2, none⟩ = some (.int .i64 x.v) ∧ wr.cell? ⟨b, off + k * 2 + 1, none⟩ = some (.slice x.a x.n x.c) := by
  obtain ⟨b, off, x, e, hx, hc⟩ := (h.belowN hb).get hk
  exact ⟨b, off, x, e, hx, hc 0 _ rfl, hc 1 _ rfl⟩
theorem Own.setPo {w : World} {B : Nat} {E : TypeId} {g c : Nat} {l : List PoH} (h : Own w B E (some ⟨g, 0, .none⟩) c l) {i : Nat} {x : PoH} (hx : l[i]? = some x) (y : PoH) :
    Own ((w.setCell ⟨g, i * 2, .none⟩ (.int .i64 y.v)).setCell ⟨g, i * 2 + 1, .none⟩ (.slice y.a y.n y.c)) B E (some ⟨g, 0, .none⟩) c (l.set i y) := by
  have hi := (List.getElem?_eq_some_iff.1 hx).1
  have h1 := h.setAt i 0 ⟨y.v, x.a, x.n, x.c⟩ x (.int .i64 y.v) hx (by decide) rfl
  have h2 := h1.setAt i 1 y ⟨y.v, x.a, x.n, x.c⟩ (.slice y.a y.n y.c) (by rw [List.getElem?_set, if_pos rfl, if_pos hi]) (by decide) rfl
  rw [List.set_set] at h2
  exact h2
end Go.Proofs.YtcamcnahkdiefaaGreat

/- Chapter 24: may there be such a chain, of so many steps? -/
namespace Go.Proofs.YtcamcnahkdiefaaGreat
set_option linter.unusedVariables false
set_option linter.unusedSimpArgs false
open Go.RowKit
def ChD.mayM (c : ChD) (l : Int) : Int := if c.bad ≠ 0 then c.bad else if l < 0 ∨ 65536 ≤ l then 2 else 0
theorem ChD.mayM_ok {c : ChD} {l : Int} (h : c.mayM l = 0) : c.Ok ∧ 0 ≤ l ∧ l < 65536 := by
  unfold ChD.mayM at h
  split at h
  · rename_i h0; exact absurd h h0
  · rename_i h0
    split at h
    · cases h
    · exact ⟨c.ok_of (Decidable.not_not.1 h0), by omega, by omega⟩
abbrev PrD.val (p : PrD) : Value := .agg #[.int .i64 p.regs, .slice p.a p.l.length p.c]
set_option maxRecDepth 100000 in
set_option maxHeartbeats 3200000 in
theorem May24M_calls (c : ChD) (a : Option Addr) (k : Nat) (t : Int) (w : World) (h : At w c.p.a c.p.l) (hl : c.p.l.length ≤ 1000000) (h' : At w c.q.a c.q.l) (hl' : c.q.l.length ≤ 1000000) (h3 : At w a c.th) (hx : -9223372036854775808 ≤ c.x ∧ c.x ≤ 9223372036854775807) (hn : c.th.length ≤ 1000000) (E : Int) (hE : c.mayM t = E) :
    Calls Tryz.prog 52 #[.agg #[.int .i64 c.p.regs, .slice c.p.a c.p.l.length c.p.c], .agg #[.int .i64 c.q.regs, .slice c.q.a c.q.l.length c.q.c], .int .i64 c.x, .slice a c.th.length k, .int .i64 t] w fun e w' => e = .returned (.int .i64 E) ∧ Below w.heap.size w w' := by
  obtain ⟨hX, hY, hb0, hz0⟩ := two_boxes w 24 24 #[.int .i64 c.p.regs, .slice c.p.a c.p.l.length c.p.c] #[.int .i64 c.q.regs, .slice c.q.a c.q.l.length c.q.c]
  obtain ⟨p0, p1, p2, p3⟩ := hX.c2
  obtain ⟨p4, p5, p6, p7⟩ := hY.c2
  have h1 := h.belowN hb0
  have h1' := h'.belowN hb0
  have h31 := h3.belowN hb0
  unfold ChD.mayM at hE
  by_cases hB : c.bad ≠ 0
  · rw [if_pos hB] at hE
    have e1 : (E == 0) = false := by rw [← hE]; simpa using hB
    have e2 : (E != 0) = true := by rw [← hE]; simpa using hB
    have HN := hide (NewBad_calls c a k _ h1 hl h1' hl' hx hn E hE (by rw [← hE]; exact hB))
    clear hE hB
    go_enter Tryz.func52, Tryz.ntmps52
    go_wp2_with (go_at_call 36; go_must ((with_reducible refine (HN.out).mono ?_); rintro e w1 ⟨rfl, hb1⟩))
    go_ret
    exact ⟨rfl, hb0.trans (hb1.mono hb0.size)⟩
  · rw [if_neg hB] at hE
    have HN := hide (NewGood_calls c a k _ h1 hl h1' hl' h31 hx hn (Decidable.not_not.1 hB))
    clear hB
    by_cases ht : t < 0 ∨ 65536 ≤ t
    · rw [if_pos ht] at hE
      subst hE
      by_cases h0 : t < 0
      · go_enter Tryz.func52, Tryz.ntmps52
        go_wp2_with (go_at_call 36; go_must ((with_reducible refine (HN.out).mono ?_); rintro e w1 ⟨g, rfl, hg1, hg2, hb1⟩))
        go_ret
        exact ⟨rfl, hb0.trans (hb1.mono hb0.size)⟩
      · have h65 : 65536 ≤ t := by omega
        go_enter Tryz.func52, Tryz.ntmps52
        go_wp2_with (go_at_call 36; go_must ((with_reducible refine (HN.out).mono ?_); rintro e w1 ⟨g, rfl, hg1, hg2, hb1⟩))
        go_ret
        exact ⟨rfl, hb0.trans (hb1.mono hb0.size)⟩
    · rw [if_neg ht] at hE
      subst hE
      have h0 : 0 ≤ t := by omega
      have h65 : t < 65536 := by omega
      clear ht
      go_enter Tryz.func52, Tryz.ntmps52
      go_wp2_with (go_at_call 36; go_must ((with_reducible refine (HN.out).mono ?_); rintro e w1 ⟨g, rfl, hg1, hg2, hb1⟩))
      go_ret
      exact ⟨rfl, hb0.trans (hb1.mono hb0.size)⟩
end Go.Proofs.YtcamcnahkdiefaaGreat

/- Chapter 24: the numbers at first as duals (model.numbers and its closure; model.pass's closure). -/
namespace Go.Proofs.YtcamcnahkdiefaaGreat
set_option linter.unusedVariables false
set_option linter.unusedSimpArgs false
open Go.RowKit
def numAt (all : List UInt64) (i : Int) (k : Nat) : DuD := ⟨all.getD k 0, if (k : Int) = i then 1 else 0⟩
def numS (all : List UInt64) (i : Int) (k n : Nat) : List DuD := (List.range n).map fun j => numAt all i (k + j)
theorem numS_len (all : List UInt64) (i : Int) (k n : Nat) : (numS all i k n).length = n := by simp [numS]
theorem numS_succ (all : List UInt64) (i : Int) (k n : Nat) : numS all i k (n + 1) = numS all i k n ++ [numAt all i (k + n)] := by simp [numS, List.range_succ]
theorem DVar_calls (v : UInt64) (w : World) : Calls Tryz.prog 107 #[.int .u64 (v.toNat : Int)] w fun e w' => e = .returned (.agg #[.int .u64 (v.toNat : Int), .int .u64 1]) ∧ Below w.heap.size w w' := by
  have hF := Blk.new w 111 #[.int .u64 (v.toNat : Int), .int .u64 1]
  go_enter Tryz.func107, Tryz.ntmps107
  go_wp2
  try simp only [Exit.then, Exit.inBlock]
  refine bodyPost_ret (results_row_D rfl _ _ w.heap.size _ #[.int .u64 (v.toNat : Int), .int .u64 1] (0, 0) _ rfl hF Tryz.underlying111 rfl (by kernel_rfl)) rfl ⟨rfl, ?_⟩
  exact below_new12 w _
structure NumAt (w : World) (g3 g4 g5 : Nat) (xa : Option Addr) (xc : Nat) (ta : Option Addr) (tc : Nat) (xs th : List UInt64) (i : Int) : Prop where
  x : Blk w g3 46 #[.slice xa xs.length xc]
  t : Blk w g4 46 #[.slice ta th.length tc]
  i : Blk w g5 3 #[.int .i64 i]
  ax : At w xa xs
  at_ : At w ta th
theorem NumAt.belowN {w w' : World} {g3 g4 g5 : Nat} {xa : Option Addr} {xc : Nat} {ta : Option Addr} {tc : Nat} {xs th : List UInt64} {i : Int} (h : NumAt w g3 g4 g5 xa xc ta tc xs th i) (hb : Below w.heap.size w w') : NumAt w' g3 g4 g5 xa xc ta tc xs th i :=
  ⟨h.x.belowN hb, h.t.belowN hb, h.i.belowN hb, h.ax.belowN hb, h.at_.belowN hb⟩
set_option maxRecDepth 100000 in
set_option maxHeartbeats 3200000 in
theorem Num1_calls (k : Nat) (g3 g4 g5 : Nat) (xa : Option Addr) (xc : Nat) (ta : Option Addr) (tc : Nat) (xs th : List UInt64) (xn tn : Nat) (hxn : xn = xs.length) (htn : tn = th.length) (i : Int) (w : World) (h : NumAt w g3 g4 g5 xa xc ta tc xs th i) (hk : k < xn + tn) (hl : xn + tn ≤ 1000000) (V D : UInt64) (hV : numAt (xs ++ th) i k = ⟨V, D⟩) :
    Calls Tryz.prog 106 #[.int .i64 (k : Int), .pointer (some ⟨g3, 0, none⟩), .pointer (some ⟨g4, 0, none⟩), .pointer (some ⟨g5, 0, none⟩)] w fun e w' => e = .returned (.agg #[.int .u64 (V.toNat : Int), .int .u64 (D.toNat : Int)]) ∧ Below w.heap.size w w' := by
  have hb0 := below_new12 w (.cells #[.int .u64 0, .int .u64 0] 111)
  have hN := Blk.new w 111 #[.int .u64 0, .int .u64 0]
  have h1 := h.belowN hb0
  obtain ⟨x0, x1⟩ := h1.x.c1
  obtain ⟨t0, t1⟩ := h1.t.c1
  obtain ⟨i0, i1⟩ := h1.i.c1
  rw [← hxn] at x0
  rw [← htn] at t0
  have e1 : (xs ++ th).getD k 0 = V := congrArg DuD.v hV
  have e2 : (if (k : Int) = i then (1 : UInt64) else 0) = D := congrArg DuD.d hV
  have HC := hide (fun W => DConst_calls V W)
  have HVV := hide (fun W => DVar_calls V W)
  have hcell : ∀ (W : World), (W.heap.size = w.heap.size + 1) → True := fun _ _ => trivial
  clear hV hcell h
  by_cases hx : k < xn
  · obtain ⟨b, off, v, rfl, hv, c0⟩ := h1.ax.getU (Below.refl _ _) (k := k) (by omega)
    have hvV : v = V := by
      rw [← e1, List.getD_eq_getElem?_getD, List.getElem?_append_left (by omega), hv.out]; rfl
    subst hvV
    clear hv e1 hxn htn
    by_cases hi : (k : Int) = i
    · subst hi
      rw [if_pos rfl] at e2
      subst e2
      go_enter Tryz.func106, Tryz.ntmps106
      go_wp2_with (go_at_call 107; go_must ((with_reducible refine (HVV.out _).mono ?_); rintro e w1 ⟨rfl, hb1⟩; have hN1 := hN.belowN hb1; obtain ⟨n0, n1, n2, n3⟩ := hN1.c2))
      have hF := (hN1.set_ 0 (.int .u64 (v.toNat : Int))).set_ 1 (.int .u64 1)
      refine bodyPost_ret (results_row_D rfl _ _ w.heap.size _ #[.int .u64 (v.toNat : Int), .int .u64 1] (0, 0) _ rfl hF Tryz.underlying111 rfl (by kernel_rfl)) rfl ⟨rfl, ?_⟩
      exact ((hb0.trans (hb1.mono hb0.size)).setCell (p := ⟨w.heap.size, 0, none⟩) (Nat.le_refl _) _).setCell (p := ⟨w.heap.size, 1, none⟩) (Nat.le_refl _) _
    · rw [if_neg hi] at e2
      subst e2
      have d1 : ((k : Int) == i) = false := by simpa using hi
      clear hi
      go_enter Tryz.func106, Tryz.ntmps106
      go_wp2_with (go_at_call 105; go_must ((with_reducible refine (HC.out _).mono ?_); rintro e w1 ⟨rfl, hb1⟩; have hN1 := hN.belowN hb1; obtain ⟨n0, n1, n2, n3⟩ := hN1.c2))
      have hF := (hN1.set_ 0 (.int .u64 (v.toNat : Int))).set_ 1 (.int .u64 0)
      refine bodyPost_ret (results_row_D rfl _ _ w.heap.size _ #[.int .u64 (v.toNat : Int), .int .u64 0] (0, 0) _ rfl hF Tryz.underlying111 rfl (by kernel_rfl)) rfl ⟨rfl, ?_⟩
      exact ((hb0.trans (hb1.mono hb0.size)).setCell (p := ⟨w.heap.size, 0, none⟩) (Nat.le_refl _) _).setCell (p := ⟨w.heap.size, 1, none⟩) (Nat.le_refl _) _
  · obtain ⟨m, rfl⟩ : ∃ m, k = xn + m := ⟨k - xn, by omega⟩
    have hm : m < tn := by omega
    obtain ⟨b, off, v, rfl, hv, c0⟩ := h1.at_.getU (Below.refl _ _) (k := m) (by omega)
    have hvV : v = V := by
      rw [← e1, List.getD_eq_getElem?_getD, List.getElem?_append_right (by omega), ← hxn, Nat.add_sub_cancel_left, hv.out]; rfl
    subst hvV
    have hsub : ((xn + m : Nat) : Int) - (xn : Int) = (m : Int) := by omega
    clear hv e1 hxn htn
    by_cases hi : ((xn + m : Nat) : Int) = i
    · subst hi
      rw [if_pos rfl] at e2
      subst e2
      go_enter Tryz.func106, Tryz.ntmps106
      go_wp2_with (go_at_call 107; go_must ((with_reducible refine (HVV.out _).mono ?_); rintro e w1 ⟨rfl, hb1⟩; have hN1 := hN.belowN hb1; obtain ⟨n0, n1, n2, n3⟩ := hN1.c2))
      have hF := (hN1.set_ 0 (.int .u64 (v.toNat : Int))).set_ 1 (.int .u64 1)
      refine bodyPost_ret (results_row_D rfl _ _ w.heap.size _ #[.int .u64 (v.toNat : Int), .int .u64 1] (0, 0) _ rfl hF Tryz.underlying111 rfl (by kernel_rfl)) rfl ⟨rfl, ?_⟩
      exact ((hb0.trans (hb1.mono hb0.size)).setCell (p := ⟨w.heap.size, 0, none⟩) (Nat.le_refl _) _).setCell (p := ⟨w.heap.size, 1, none⟩) (Nat.le_refl _) _
    · rw [if_neg hi] at e2
      subst e2
      have d1 : (((xn + m : Nat) : Int) == i) = false := by simpa using hi
      have d2 : ((xn : Int) + (m : Int) == i) = false := by rw [← d1]; simp
      clear hi
      go_enter Tryz.func106, Tryz.ntmps106
      go_wp2_with (go_at_call 105; go_must ((with_reducible refine (HC.out _).mono ?_); rintro e w1 ⟨rfl, hb1⟩; have hN1 := hN.belowN hb1; obtain ⟨n0, n1, n2, n3⟩ := hN1.c2))
      have hF := (hN1.set_ 0 (.int .u64 (v.toNat : Int))).set_ 1 (.int .u64 0)
      refine bodyPost_ret (results_row_D rfl _ _ w.heap.size _ #[.int .u64 (v.toNat : Int), .int .u64 0] (0, 0) _ rfl hF Tryz.underlying111 rfl (by kernel_rfl)) rfl ⟨rfl, ?_⟩
      exact ((hb0.trans (hb1.mono hb0.size)).setCell (p := ⟨w.heap.size, 0, none⟩) (Nat.le_refl _) _).setCell (p := ⟨w.heap.size, 1, none⟩) (Nat.le_refl _) _
abbrev numF (g3 g4 g5 : Nat) : Value := .func (.func 106) #[] #[.pointer (some ⟨g3, 0, none⟩), .pointer (some ⟨g4, 0, none⟩), .pointer (some ⟨g5, 0, none⟩)]
set_option maxRecDepth 100000 in
set_option maxHeartbeats 3200000 in
theorem State_calls (k n gs : Nat) (g3 g4 g5 : Nat) (xa : Option Addr) (xc : Nat) (ta : Option Addr) (tc : Nat) (xs th : List UInt64) (xn tn : Nat) (hxn : xn = xs.length) (htn : tn = th.length) (i : Int) (w : World) (h : NumAt w g3 g4 g5 xa xc ta tc xs th i) (hS : Blk w gs 113 #[numF g3 g4 g5]) (hk : k + n ≤ xn + tn) (hl : xn + tn ≤ 1000000) :
    Calls Tryz.prog 104 #[.int .i64 (k : Int), .int .i64 (n : Int), .pointer (some ⟨gs, 0, none⟩)] w fun e w' => ∃ a' c', e = .returned (.slice a' n c') ∧ Own w' w.heap.size 111 a' c' (numS (xs ++ th) i k n) ∧ Below w.heap.size w w' := by
  have HN := hide (fun (W : World) (j : Nat) (hW : Below w.heap.size w W) (hj : j < xn + tn) (V D : UInt64) (hV : numAt (xs ++ th) i j = ⟨V, D⟩) => Num1_calls j g3 g4 g5 xa xc ta tc xs th xn tn hxn htn i W (h.belowN hW) hj hl V D hV)
  clear hxn htn h
  go_enter Tryz.func104, Tryz.ntmps104
  go_wp2_with fail
  go_loopw [6, 9] (fun rv iv wr => ∃ (j : Nat) (a' : Option Addr) (c' : Nat), rv = .slice a' j c' ∧ iv = .int .i64 j ∧ j ≤ n ∧ Own wr w.heap.size 111 a' c' (numS (xs ++ th) i k j) ∧ Below w.heap.size w wr) (fun _ iv _ => n - (intOf iv).toNat)
  case atStart => exact ⟨0, none, 0, rfl, rfl, by omega, Own.none _ _ _, Below.refl _ _⟩
  case round =>
    obtain ⟨j, a', c', rfl, rfl, hj, hown, hb⟩ := hrel
    have hz := hb.size
    obtain ⟨s0, s1⟩ := (hS.belowN hb).c1
    by_cases hlt : j < n
    · obtain ⟨⟨V, D⟩, hV⟩ : ∃ x, numAt (xs ++ th) i (k + j) = x := ⟨_, rfl⟩
      have HV := hide (HN.out wr (k + j) hb (by omega) V D hV)
      have HL := hide (numS_len (xs ++ th) i k j).symm
      have HT := hide (show numS (xs ++ th) i k (j + 1) = numS (xs ++ th) i k j ++ [⟨V, D⟩] by rw [numS_succ, hV])
      have hkj : ((k + j : Nat) : Int) = (k : Int) + (j : Int) := by omega
      rw [hkj] at HV
      clear hV hkj
      go_wp2_with (first
        | (at_builtin; go_must (have hgd := hb9; refine wpList_push tyD hown9 ⟨V, D⟩ rfl rfl rfl rfl rfl rfl HL.out hz9 (by omega) ?_; intro a4 c4 w4 hown4 hg4 hcs4))
        | (go_at_call 106; go_must ((with_reducible refine (HV.out).mono ?_); rintro vv w9 ⟨rfl, hb9⟩; have hown9 := hown.belowN hb9; have hz9 := Nat.le_trans hz hb9.size)))
      go_roundw
      case rel => exact ⟨j + 1, a4, c4, by go_num, by go_num, by omega, by rw [HT.out]; exact hown4, below_push (hb.trans (hb9.mono hz)) hown9 hg4 hz9⟩
      case measure => simp [intOf] <;> omega
    · have hjn : j = n := by omega
      subst hjn
      go_wp2
      go_ret
      exact ⟨a', c', rfl, hown, hb⟩
end Go.Proofs.YtcamcnahkdiefaaGreat

/- Slices that may be appended to without turning what is old: the call's own, and full ones. -/
namespace Go.Proofs.YtcamcnahkdiefaaGreat
set_option linter.unusedVariables false
set_option linter.unusedSimpArgs false
open Go.RowKit
section
variable {P : Program} {α : Type} [Flat α]
theorem At.news {w : World} {ad : Addr} {l : List α} (h : At w (some ad) l) : ∀ j u, (l.flatMap Flat.enc)[j]? = some u → w.cell? (ad.add j) = some u := by
  intro j u hu
  have hj : j < l.length * Flat.n α := by rw [← enc_length]; exact (List.getElem?_eq_some_iff.1 hu).1
  have hp : 0 < Flat.n α := Flat.pos
  have hi' : j / Flat.n α < l.length := (Nat.div_lt_iff_lt_mul hp).2 hj
  have hx := List.getElem?_eq_getElem hi'
  obtain ⟨b, off, e, h2⟩ := h _ _ hx
  injection e with e
  subst e
  have hf : j % Flat.n α < (Flat.enc l[j / Flat.n α]).length := by rw [Flat.len]; exact Nat.mod_lt _ hp
  have h3 := enc_flat l _ _ hx _ _ (List.getElem?_eq_getElem hf)
  have hdm : j / Flat.n α * Flat.n α + j % Flat.n α = j := by rw [Nat.mul_comm]; exact Nat.div_add_mod j _
  rw [hdm, hu] at h3
  have h4 := h2 _ _ (List.getElem?_eq_getElem hf)
  rw [addr_add, ← h3] at *
  rw [← h4]
  congr 2
  omega
def Gr (w : World) (B : Nat) (E : TypeId) (a : Option Addr) (c : Nat) (l : List α) : Prop := Own w B E a c l ∨ (At w a l ∧ c = l.length)
theorem Gr.at_ {w : World} {B : Nat} {E : TypeId} {a : Option Addr} {c : Nat} {l : List α} (h : Gr w B E a c l) : At w a l := h.elim (·.at_) (·.1)
theorem Gr.belowN {w w' : World} {B : Nat} {E : TypeId} {a : Option Addr} {c : Nat} {l : List α} (h : Gr w B E a c l) (hb : Below w.heap.size w w') : Gr w' B E a c l := h.imp (·.belowN hb) (fun h => ⟨h.1.belowN hb, h.2⟩)
theorem run_append_gr {w : World} {T E : TypeId} (ty : Ty P T E α) {B : Nat} {a : Option Addr} {c : Nat} {l : List α} (own : Gr w B E a c l) {a2 : Option Addr} {c2 : Nat} {l2 : List α} (src : At w a2 l2) (t0 : TypeId)
    (hB : B ≤ w.heap.size) (hl : l.length ≤ 1000000000) (hl2 : l2.length ≤ 1000000000) :
    ∃ a' c' w', (Builtin.append_ #[T, T] t0 #[.slice a l.length c, .slice a2 l2.length c2]).run P w = .ok (.slice a' (l.length + l2.length) c') w' ∧ Gr w' B E a' c' (l ++ l2) ∧ Below B w w' ∧ w.grownBy w' (a.map (·.block)) ∧ (a'.map (·.block) = a.map (·.block) ∨ ∃ g, a'.map (·.block) = some g ∧ w.heap.size ≤ g) := by
  rcases own with own | ⟨hat, hc⟩
  · obtain ⟨a', c', w', h1, h2, h3, h4⟩ := run_append_all ty own src t0 hB hl hl2 (c2 := c2)
    exact ⟨a', c', w', h1, .inl h2, below_push (Below.refl _ _) own h3 hB, h3, h4⟩
  · subst hc
    obtain ⟨i, z, hi, hz, hsz, hby, hzs⟩ := ty.info
    by_cases h0 : l2 = []
    · subst h0
      have hs : Src P i.size T (.slice a2 ([] : List α).length c2) 0 [] w := by
        cases a2 with
        | none => exact Src.ofNil w ty.und c2
        | some ad => exact Src.ofSlice w ty.und ad 0 c2 [] (by simp) (fun j u hu => by cases hu) (fun u hu => by cases hu)
      refine ⟨a, l.length, w, run_append_nothing w T T t0 E i ty.und hi a l.length l.length (Nat.le_refl _) _ hs, .inr ⟨by rw [List.append_nil]; exact hat, by simp⟩, Below.refl _ _, World.grownBy.refl w _, .inl rfl⟩
    · obtain ⟨b2, off2, rfl, _⟩ := src.lt h0
      have hlen : 0 < l2.length := List.length_pos_iff.2 h0
      cases a with
      | none =>
        have hl0 : l = [] := by
          cases l with
          | nil => rfl
          | cons x r => obtain ⟨b, off, h, _⟩ := hat 0 x rfl; cases h
        subst hl0
        obtain ⟨a', c', w', h1, h2, h3, h4⟩ := run_append_all ty (Own.none w B E : Own w B E none 0 ([] : List α)) src t0 hB hl hl2 (c2 := c2)
        exact ⟨a', c', w', h1, .inl h2, below_push (Below.refl _ _) (Own.none w B E : Own w B E none 0 ([] : List α)) h3 hB, h3, h4⟩
      | some ad1 =>
        obtain ⟨v', w', hr, h2, h3⟩ := run_append_arg_grows (P := P) w T t0 E i z (Flat.n α) i.bytes ty.und hi hz hsz rfl hzs Flat.pos ad1 l.length l.length _ (enc_length l) hat.news ⟨b2, off2, none⟩ l2.length c2 _ (enc_length l2) src.news (by omega) (by simp only [maxLen]; omega) (Nat.le_trans (Nat.mul_le_mul (show l.length + l2.length ≤ 2000000000 by omega) hby) (by decide))
        have hform : ∃ a' c', v' = .slice a' (l.length + l2.length) c' := by
          rcases h2.2 with ⟨rfl, h0⟩ | ⟨g, cap, cur, rfl, _⟩
          · omega
          · exact ⟨_, _, rfl⟩
        obtain ⟨a', c', rfl⟩ := hform
        have ho : Own w' w.heap.size E a' c' (l ++ l2) := by
          unfold Own
          rw [List.flatMap_append, List.length_append]
          exact h2
        have hne : l ++ l2 ≠ [] := fun e => h0 (List.append_eq_nil_iff.1 e).2
        obtain ⟨g, e1, e2, _⟩ := ho.some_ hne
        exact ⟨a', c', w', hr, .inl (ho.mono hB), (below_of_grown h3).mono hB, grown_of_below (below_of_grown h3) _, .inr ⟨g, by rw [e1]; rfl, e2⟩⟩
variable {ops : Array Oper} {o : Oper} {act : Act} {K : Act → World → Prop} {Q : Exit → Act → World → Prop} {E' : Prop}
theorem step_gr {w : World} {T E : TypeId} (ty : Ty P T E α) {B : Nat} {a : Option Addr} {c : Nat} {l : List α} (own : Gr w B E a c l) {a2 : Option Addr} {c2 : Nat} {l2 : List α} (src : At w a2 l2) {s x : Operand} (hgd : o.guard = none)
    (ho : o.op = .call { callee := .builtin .append, args := #[s, x], argTypes := #[T, T] })
    {n n2 : Nat} (hs : act.eval s = .slice a n c) (hx : act.eval x = .slice a2 n2 c2) (hn : n = l.length) (hn2 : n2 = l2.length) (hB : B ≤ w.heap.size) (hl : n ≤ 1000000000) (hl2 : n2 ≤ 1000000000)
    (h : ∀ a' c' w', Gr w' B E a' c' (l ++ l2) → Below B w w' → w.grownBy w' (a.map (·.block)) → (a'.map (·.block) = a.map (·.block) ∨ ∃ g, a'.map (·.block) = some g ∧ w.heap.size ≤ g) → K (act.put o.dst (.slice a' (n + n2) c')) w') :
    if Region.wanted o (yielded ops act.tmps) = true then Oper.wp P o act w K Q else E' := by
  have hw : Region.wanted o (yielded ops act.tmps) = true := by simp [Region.wanted, hgd]
  rw [if_pos hw]
  subst hn hn2
  obtain ⟨a', c', w', hr, h1, h2, h3, h4⟩ := run_append_gr ty own src o.type hB hl hl2 (c2 := c2)
  unfold Oper.wp execOp
  simp only [ho, resolve, invoke, builtin, Sem.run_bind, Sem.run_pure, Result.andThen_ok, List.map_toArray, List.map_cons, List.map_nil, hs, hx, hr]
  exact h a' c' w' h1 h2 h3 h4
end
end Go.Proofs.YtcamcnahkdiefaaGreat

/- A region that draws its order: reads wherever they stand, then operations one behind the other that leave what is read, then pure ones that may come anywhere behind, and the tail; what is late waits for the reads by way of others. -/
namespace Go.Proofs.YtcamcnahkdiefaaGreat
set_option linter.unusedVariables false
set_option linter.unusedSimpArgs false
open Go.RowKit
section
variable {P : Program} {ops : Array Oper} {Q : Exit → Act → World → Prop} {md : Region.Mode} {S : World → Prop} {late : Nat → Bool}
def Shut (md : Region.Mode) (ops : Array Oper) (done : Array Bool) : Prop := ∀ k ok, ops[k]? = some ok → done.getD k true = true → ∀ e ∈ ok.after, Region.binds md e = true → done.getD e.on false = true
theorem Shut.new : Shut md ops (Array.replicate ops.size false) := fun k ok hk h => by
  have hlt := (Array.getElem?_eq_some_iff.1 hk).1
  simp [Array.getD, hlt] at h
theorem Shut.take {done : Array Bool} (h : Shut md ops done) {j : Nat} (hj : j ∈ Region.ready md ops done) : Shut md ops (done.setIfInBounds j true) := fun k ok hk hd e he hb => by
  by_cases e1 : j = k
  · subst e1
    obtain ⟨_, oj, hoj, hall⟩ := mem_ready.1 hj
    obtain rfl : oj = ok := Option.some.inj (hoj.symm.trans hk)
    exact getD_set_true (hall e he hb)
  · rw [getD_set_ne true e1] at hd
    exact getD_set_true (h k ok hk hd e he hb)
def farB (md : Region.Mode) (ops : Array Oper) : Nat → Nat → Nat → Bool
  | 0, _, _ => false
  | n + 1, j, i => match ops[j]? with
    | none => false
    | some o => o.after.any fun e => Region.binds md e && (decide (e.on = i) || farB md ops n e.on i)
theorem getD_ft {done : Array Bool} {k : Nat} (h : done.getD k false = true) : done.getD k true = true := by
  rcases Nat.lt_or_ge k done.size with h' | h'
  · simp [Array.getD, h'] at h ⊢; exact h
  · simp [Array.getD, Nat.not_lt.2 h'] at h
theorem getD_tf {done : Array Bool} {k : Nat} (h : done.getD k true = false) : done.getD k false = false := by
  rcases Nat.lt_or_ge k done.size with h' | h'
  · simp [Array.getD, h'] at h ⊢; exact h
  · simp [Array.getD, Nat.not_lt.2 h'] at h
theorem far_shut {done : Array Bool} (hS : Shut md ops done) {i : Nat} (hi : done.getD i false = false) : ∀ (n j : Nat), farB md ops n j i = true → done.getD j true = true → False
  | 0, j, h, _ => by simp [farB] at h
  | n + 1, j, h, hd => by
    unfold farB at h
    cases ho : ops[j]? with
    | none => rw [ho] at h; cases h
    | some o =>
      rw [ho] at h
      obtain ⟨k, hk, h1⟩ := Array.any_eq_true.1 h
      simp only [Bool.and_eq_true, Bool.or_eq_true, decide_eq_true_eq] at h1
      have h2 := hS j o ho hd o.after[k] (Array.getElem_mem hk) h1.1
      rcases h1.2 with e | e
      · rw [e, hi] at h2; cases h2
      · exact far_shut hS hi n _ e (getD_ft h2)
theorem far_ready {done : Array Bool} (hS : Shut md ops done) {i j n : Nat} (hi : done.getD i false = false) (hj : j ∈ Region.ready md ops done) (h : farB md ops n j i = true) : False := by
  cases n with
  | zero => simp [farB] at h
  | succ n =>
    unfold farB at h
    obtain ⟨_, o, ho, hall⟩ := mem_ready.1 hj
    rw [ho] at h
    obtain ⟨k, hk, h1⟩ := Array.any_eq_true.1 h
    simp only [Bool.and_eq_true, Bool.or_eq_true, decide_eq_true_eq] at h1
    have h2 := hall o.after[k] (Array.getElem_mem hk) h1.1
    rcases h1.2 with e | e
    · rw [e, hi] at h2; cases h2
    · exact far_shut hS hi n _ e (getD_ft h2)
def brk (late : Nat → Bool) (done : Array Bool) : Prop := ∃ k, late k = true ∧ done.getD k false = true
def anyB (P : Program) (md : Region.Mode) (ops : Array Oper) (Q : Exit → Act → World → Prop) (S : World → Prop) (late : Nat → Bool) : Nat → Array Bool → Act → World → Prop
  | 0, done, a, w => Region.ready md ops done = [] ∧ Q .normal a w
  | n + 1, done, a, w => (Region.ready md ops done = [] → Q .normal a w) ∧
    ∀ i ∈ Region.ready md ops done, wpOp P ops Q i (fun a' w' => (brk late done ∨ late i = true ∨ S w') ∧ anyB P md ops Q S late n (done.setIfInBounds i true) a' w') a w
theorem anyB_any : ∀ (n : Nat) (done : Array Bool) (a : Act) (w : World), anyB P md ops Q S late n done a w → wpAny P md ops Q n done a w
  | 0, _, _, _, h => h
  | n + 1, _, _, _, h => ⟨h.1, fun i hi => wpOp_mono (fun a' w' h' => anyB_any n _ a' w' h'.2) (h.2 i hi)⟩
theorem anyB_take {i : Nat} {oi : Oper} {v : Value} (hi : ops[i]? = some oi) (hsel : ∀ (j : Nat) (o : Oper) cs b, ops[j]? = some o → o.op ≠ .select cs b)
    (hQ : ∀ c a w, Q (.panic c) (a.put oi.dst v) w → Q (.panic c) a w) (hlate : ∀ j, late j = true → farB md ops ops.size j i = true) :
    ∀ (n : Nat) (done : Array Bool) (a : Act) (w : World), Shut md ops done →
      (∀ j oj, ops[j]? = some oj → j ≠ i → done.getD j true = false → (∀ e ∈ oj.after, Region.binds md e = true → e.on ≠ i) → oi.apart ops oj = true) →
      i ∈ Region.ready md ops done → YieldsIf P ops S oi v a → S w → anyB P md ops Q S late n (done.setIfInBounds i true) (a.put oi.dst v) w → anyB P md ops Q S late (n + 1) done a w := by
  intro n
  induction n with
  | zero =>
    intro done a w _ _ hr hy hS H
    refine ⟨fun h => (by rw [h] at hr; cases hr), fun j hj => ?_⟩
    by_cases e : j = i
    · subst e; exact hy.wpOp hi hS ⟨.inr (.inr hS), H⟩
    · have := ready_mono hj e
      rw [H.1] at this
      cases this
  | succ n ih =>
    intro done a w hsh hfree hr hy hS H
    refine ⟨fun h => (by rw [h] at hr; cases hr), fun j hj => ?_⟩
    by_cases e : j = i
    · subst e; exact hy.wpOp hi hS ⟨.inr (.inr hS), H⟩
    · have h1 := H.2 j (ready_mono hj e)
      obtain ⟨hun, oj, hoj, hall⟩ := mem_ready.1 hj
      have hin := getD_tf (mem_ready.1 hr).1
      have hno : ∀ x ∈ oj.after, Region.binds md x = true → x.on ≠ i := fun x hx hb hq => by
        have g1 := hall x hx hb
        rw [hq, hin] at g1
        cases g1
      have hnl : late j ≠ true := fun hl => far_ready hsh hin hj (hlate j hl)
      have hnb : ¬ brk late (done.setIfInBounds i true) := by
        rintro ⟨k, hk1, hk2⟩
        by_cases ek : i = k
        · subst ek; exact far_ready hsh hin hr (hlate i hk1)
        · rw [getD_set_ne false ek] at hk2
          exact far_shut hsh hin _ k (hlate k hk1) (getD_ft hk2)
      have h2 := wpOp_putIf hoj (hfree j oj hoj e hun hno) (fun cs b => hsel i oi cs b hi) (fun cs b => hsel j oj cs b hoj) hQ hy h1
      refine wpOp_mono (fun a' w' h3 => ?_) h2
      have hS' : S w' := (h3.2.1.resolve_left hnb).resolve_left hnl
      refine ⟨.inr (.inr hS'), ih (done.setIfInBounds j true) a' w' (hsh.take hj) (fun k ok hk hki hu hn => ?_) (ready_mono hr (Ne.symm e)) h3.1 hS' ?_⟩
      · refine hfree k ok hk hki ?_ hn
        by_cases hjk : j = k
        · subst hjk; exact hun
        · rw [getD_set_ne true hjk] at hu; exact hu
      · rw [Array.setIfInBounds_comm _ _ e]
        exact h3.2.2
theorem anyB_takeT {i : Nat} {oi : Oper} {v : Value} (hi : ops[i]? = some oi) (hsel : ∀ (j : Nat) (o : Oper) cs b, ops[j]? = some o → o.op ≠ .select cs b)
    (hQ : ∀ c a w, Q (.panic c) (a.put oi.dst v) w → Q (.panic c) a w) (hil : late i = false) :
    ∀ (n : Nat) (done : Array Bool) (a : Act) (w : World),
      (∀ j oj, ops[j]? = some oj → j ≠ i → done.getD j true = false → (∀ e ∈ oj.after, Region.binds md e = true → e.on ≠ i) → oi.apart ops oj = true) →
      i ∈ Region.ready md ops done → YieldsIf P ops (fun _ => True) oi v a → (brk late done ∨ S w) → anyB P md ops Q S late n (done.setIfInBounds i true) (a.put oi.dst v) w → anyB P md ops Q S late (n + 1) done a w := by
  intro n
  induction n with
  | zero =>
    intro done a w _ hr hy hS H
    refine ⟨fun h => (by rw [h] at hr; cases hr), fun j hj => ?_⟩
    by_cases e : j = i
    · subst e; exact hy.wpOp hi trivial ⟨hS.elim .inl (fun h => .inr (.inr h)), H⟩
    · have := ready_mono hj e
      rw [H.1] at this
      cases this
  | succ n ih =>
    intro done a w hfree hr hy hS H
    refine ⟨fun h => (by rw [h] at hr; cases hr), fun j hj => ?_⟩
    by_cases e : j = i
    · subst e; exact hy.wpOp hi trivial ⟨hS.elim .inl (fun h => .inr (.inr h)), H⟩
    · have h1 := H.2 j (ready_mono hj e)
      obtain ⟨hun, oj, hoj, hall⟩ := mem_ready.1 hj
      have hin := getD_tf (mem_ready.1 hr).1
      have hno : ∀ x ∈ oj.after, Region.binds md x = true → x.on ≠ i := fun x hx hb hq => by
        have g1 := hall x hx hb
        rw [hq, hin] at g1
        cases g1
      have hnb : brk late (done.setIfInBounds i true) → brk late done := by
        rintro ⟨k, hk1, hk2⟩
        by_cases ek : i = k
        · subst ek; rw [hil] at hk1; cases hk1
        · rw [getD_set_ne false ek] at hk2
          exact ⟨k, hk1, hk2⟩
      have h2 := wpOp_putIf hoj (hfree j oj hoj e hun hno) (fun cs b => hsel i oi cs b hi) (fun cs b => hsel j oj cs b hoj) hQ hy h1
      refine wpOp_mono (fun a' w' h3 => ?_) h2
      have hc : brk late done ∨ late j = true ∨ S w' := h3.2.1.imp hnb id
      have hjr : j < done.size := by
        rcases Nat.lt_or_ge j done.size with h' | h'
        · exact h'
        · have := (mem_ready.1 hj).1
          simp [Array.getD, Nat.not_lt.2 h'] at this
      have hc2 : brk late (done.setIfInBounds j true) ∨ S w' := by
        rcases hc with ⟨k, hk1, hk2⟩ | hl | hs
        · exact .inl ⟨k, hk1, getD_set_true hk2⟩
        · exact .inl ⟨j, hl, by simp [Array.getD, hjr]⟩
        · exact .inr hs
      refine ⟨hc, ih (done.setIfInBounds j true) a' w' (fun k ok hk hki hu hn => ?_) (ready_mono hr (Ne.symm e)) h3.1 hc2 ?_⟩
      · refine hfree k ok hk hki ?_ hn
        by_cases hjk : j = k
        · subst hjk; exact hun
        · rw [getD_set_ne true hjk] at hu; exact hu
      · rw [Array.setIfInBounds_comm _ _ e]
        exact h3.2.2
end
section
variable {P : Program} {l : List Oper} {Q : Exit → Act → World → Prop} {md : Region.Mode} {S : World → Prop} {late : Nat → Bool}
theorem anyB_headL {g : Nat} {fin : Array Bool} (hs : Region.noSelect l.toArray = true) (hQ : ∀ c a w i v, Q (.panic c) (Act.put a i v) w → Q (.panic c) a w) :
    ∀ (is : List Nat) (done : Array Bool) (a : Act) (w : World), Shut md l.toArray done → (∀ i ∈ is, ∀ j, late j = true → farB md l.toArray l.toArray.size j i = true) →
      goHeadL md l.toArray is done = some fin → S w → headK P l.toArray S (fun a' => anyB P md l.toArray Q S late g fin a' w) (pickL l is) a → anyB P md l.toArray Q S late (is.length + g) done a w
  | [], done, a, w, hsh, _, hg, hS, h => by
    simp only [goHeadL, Option.some.injEq] at hg
    subst hg
    rw [List.length_nil, Nat.zero_add]
    exact h
  | i :: is, done, a, w, hsh, hlate, hg, hS, h => by
    simp only [goHeadL] at hg
    split at hg
    · rename_i hc
      simp only [Bool.and_eq_true] at hc
      have hi : i ∈ Region.ready md l.toArray done := by simpa using hc.1
      obtain ⟨o, h0⟩ := ready_op hi
      rw [pickL_cons (by simpa using h0)] at h
      obtain ⟨v, hy, hK⟩ := h
      rw [List.length_cons, show is.length + 1 + g = is.length + g + 1 by omega]
      exact anyB_take h0 (Region.noSelect_spec hs) (fun c a w => hQ c a w _ _) (hlate i List.mem_cons_self) _ _ _ _ hsh (Region.free_spec h0 hc.2) hi hy hS
        (anyB_headL hs hQ is _ _ w (hsh.take hi) (fun j hj => hlate j (List.mem_cons_of_mem _ hj)) hg hS hK)
    · cases hg
theorem anyB_headT {g : Nat} {fin : Array Bool} (hs : Region.noSelect l.toArray = true) (hQ : ∀ c a w i v, Q (.panic c) (Act.put a i v) w → Q (.panic c) a w) :
    ∀ (is : List Nat) (done : Array Bool) (a : Act) (w : World), (∀ i ∈ is, late i = false) →
      goHeadL md l.toArray is done = some fin → (brk late done ∨ S w) → headK P l.toArray (fun _ => True) (fun a' => anyB P md l.toArray Q S late g fin a' w) (pickL l is) a → anyB P md l.toArray Q S late (is.length + g) done a w
  | [], done, a, w, _, hg, hS, h => by
    simp only [goHeadL, Option.some.injEq] at hg
    subst hg
    rw [List.length_nil, Nat.zero_add]
    exact h
  | i :: is, done, a, w, hlate, hg, hS, h => by
    simp only [goHeadL] at hg
    split at hg
    · rename_i hc
      simp only [Bool.and_eq_true] at hc
      have hi : i ∈ Region.ready md l.toArray done := by simpa using hc.1
      obtain ⟨o, h0⟩ := ready_op hi
      rw [pickL_cons (by simpa using h0)] at h
      obtain ⟨v, hy, hK⟩ := h
      rw [List.length_cons, show is.length + 1 + g = is.length + g + 1 by omega]
      exact anyB_takeT h0 (Region.noSelect_spec hs) (fun c a w => hQ c a w _ _) (hlate i List.mem_cons_self) _ _ _ _ (Region.free_spec h0 hc.2) hi hy hS
        (anyB_headT hs hQ is _ _ w (fun j hj => hlate j (List.mem_cons_of_mem _ hj)) hg (hS.imp (fun ⟨k, h1, h2⟩ => ⟨k, h1, getD_set_true h2⟩) id) hK)
    · cases hg
theorem anyB_seq : ∀ (is : List Nat) (done : Array Bool) (a : Act) (w : World), (∀ i ∈ is, late i = true) →
    seqL md l.toArray is done = true → wpList P l.toArray Q (pickL l is) a w → anyB P md l.toArray Q S late is.length done a w
  | [], _, _, _, _, hB, h => ⟨by simpa [seqL] using hB, h⟩
  | i :: is, done, a, w, hL, hB, h => by
    simp only [seqL, Bool.and_eq_true, decide_eq_true_eq] at hB
    obtain ⟨o, h0⟩ := ready_op (md := md) (i := i) (ops := l.toArray) (done := done) (by rw [hB.1]; simp)
    rw [pickL_cons (by simpa using h0)] at h
    refine ⟨fun h1 => (by rw [hB.1] at h1; cases h1), fun j hj => ?_⟩
    rw [hB.1] at hj
    have hij : j = i := by simpa using hj
    subst hij
    have hw : wpOp P l.toArray Q j (wpList P l.toArray Q (pickL l is)) a w := by unfold wpOp; simp only [h0]; exact h
    exact wpOp_mono (fun a' w' h' => ⟨.inr (.inl (hL j List.mem_cons_self)), anyB_seq is _ a' w' (fun x hx => hL x (List.mem_cons_of_mem _ hx)) hB.2 h'⟩) hw
theorem headK_skip {ops : Array Oper} {L : Act → Prop} {o : Oper} {rest : List Oper} {a : Act} (hw : Region.wanted o (yielded ops a.tmps) = false)
    (h : ∀ a', a' = a.put o.dst undef → headK P ops S L rest a') : headK P ops S L (o :: rest) a := ⟨undef, .inr ⟨hw, rfl⟩, h _ rfl⟩
def midF (P : Program) (ops : Array Oper) (Q : Exit → Act → World → Prop) (S : World → Prop) (F : Act → World → Prop) : List Oper → Act → World → Prop
  | [], a, w => F a w
  | o :: mid, a, w => ∀ K : Act → World → Prop, (∀ a2 w2, S w2 → midF P ops Q S F mid a2 w2 → K a2 w2) → if Region.wanted o (yielded ops a.tmps) = true then Oper.wp P o a w K Q else K (a.put o.dst undef) w
def seqF (md : Region.Mode) (ops : Array Oper) : List Nat → Array Bool → Option (Array Bool)
  | [], done => some done
  | i :: is, done => if Region.ready md ops done = [i] then seqF md ops is (done.setIfInBounds i true) else none
theorem anyB_midF {g : Nat} {fin : Array Bool} : ∀ (mid : List Nat) (done : Array Bool) (a : Act) (w : World), S w →
    seqF md l.toArray mid done = some fin → midF P l.toArray Q S (fun a w => S w → anyB P md l.toArray Q S late g fin a w) (pickL l mid) a w → anyB P md l.toArray Q S late (mid.length + g) done a w
  | [], done, a, w, hS, hB, h => by
    simp only [seqF, Option.some.injEq] at hB
    subst hB
    rw [List.length_nil, Nat.zero_add]
    exact h hS
  | i :: mid, done, a, w, hS, hB, h => by
    simp only [seqF] at hB
    split at hB
    · rename_i hr
      obtain ⟨o, h0⟩ := ready_op (md := md) (i := i) (ops := l.toArray) (done := done) (by rw [hr]; simp)
      rw [pickL_cons (by simpa using h0)] at h
      rw [List.length_cons, show mid.length + 1 + g = mid.length + g + 1 by omega]
      refine ⟨fun h1 => (by rw [hr] at h1; cases h1), fun j hj => ?_⟩
      have hj' := hj
      rw [hr] at hj'
      have hij : j = i := by simpa using hj'
      subst hij
      unfold wpOp
      simp only [h0]
      have h1 := h (fun a' w' => (brk late done ∨ late j = true ∨ S w') ∧ anyB P md l.toArray Q S late (mid.length + g) (done.setIfInBounds j true) a' w') (fun a2 w2 hs2 hw2 => ⟨.inr (.inr hs2),
        anyB_midF mid _ a2 w2 hs2 hB hw2⟩)
      split
      · rename_i hw; rw [if_pos hw] at h1; exact .inl h1
      · rename_i hw; rw [if_neg hw] at h1; exact h1
    · cases hB
def fanB (ops : Array Oper) (hd mid hd2 tl : List Nat) : Bool :=
  Region.noSelect ops && decide (hd.length + (mid.length + (hd2.length + tl.length)) = ops.size) && (tl.all fun j => hd.all fun i => farB .any ops ops.size j i) && (hd2.all fun j => !tl.contains j) &&
  match goHeadL .any ops hd (Array.replicate ops.size false) with
    | some fin => match seqF .any ops mid fin with
      | some fin2 => match goHeadL .any ops hd2 fin2 with
        | some fin3 => seqL .any ops tl fin3
        | none => false
      | none => false
    | none => false
theorem wp_region_fan {id : Nat} {a : Act} {w : World} (hd mid hd2 tl : List Nat) (S : World → Prop) (hm : P.follows .mixedOrders = true) (hB : fanB l.toArray hd mid hd2 tl = true) (hS : S w.drew)
    (h : headK P l.toArray S (fun a' => midF P l.toArray (NoPanic Q) S (fun a w => headK P l.toArray (fun _ => True) (fun a' => wpList P l.toArray (NoPanic Q) (pickL l tl) a' w) (pickL l hd2) a) (pickL l mid) a' w.drew) (pickL l hd) a) : (Code.region id l.toArray true).wp P Q a w := by
  refine wp_region_noPanic (wp_region_any hm ?_)
  simp only [fanB, Bool.and_eq_true, decide_eq_true_eq] at hB
  obtain ⟨⟨⟨⟨hs, hn⟩, hlB⟩, hdis⟩, hg⟩ := hB
  cases hgo : goHeadL .any l.toArray hd (Array.replicate l.toArray.size false) with
  | none => rw [hgo] at hg; cases hg
  | some fin =>
    rw [hgo] at hg
    simp only at hg
    cases hsq : seqF .any l.toArray mid fin with
    | none => rw [hsq] at hg; cases hg
    | some fin2 =>
      rw [hsq] at hg
      simp only at hg
      cases hgo2 : goHeadL .any l.toArray hd2 fin2 with
      | none => rw [hgo2] at hg; cases hg
      | some fin3 =>
        rw [hgo2] at hg
        simp only at hg
        refine anyB_any (S := S) (late := fun j => tl.contains j) _ _ _ _ ?_
        have last : ∀ a w, S w → headK P l.toArray (fun _ => True) (fun a' => wpList P l.toArray (NoPanic Q) (pickL l tl) a' w) (pickL l hd2) a →
            anyB P .any l.toArray (NoPanic Q) S (fun j => tl.contains j) (hd2.length + tl.length) fin2 a w := fun a w hS hh => by
          refine anyB_headT (g := tl.length) (fin := fin3) hs (fun c a w i v hq => by cases hq) hd2 fin2 a w (fun i hi => by have := List.all_eq_true.1 hdis i hi; simpa using this) hgo2 (.inr hS) ?_
          have key : ∀ (ll : List Oper) (a0 : Act), headK P l.toArray (fun _ => True) (fun a' => wpList P l.toArray (NoPanic Q) (pickL l tl) a' w) ll a0 →
              headK P l.toArray (fun _ => True) (fun a' => anyB P .any l.toArray (NoPanic Q) S (fun j => tl.contains j) tl.length fin3 a' w) ll a0 := by
            intro ll
            induction ll with
            | nil => exact fun a0 h0 => anyB_seq tl fin3 a0 _ (fun i hi => by simpa using hi) hg h0
            | cons o ll ih =>
              intro a0 h0
              obtain ⟨v, hy, hK⟩ := h0
              exact ⟨v, hy, ih _ hK⟩
          exact key _ _ hh
        have keyM : ∀ (ll : List Oper) (a0 : Act) (w0 : World), midF P l.toArray (NoPanic Q) S (fun a w => headK P l.toArray (fun _ => True) (fun a' => wpList P l.toArray (NoPanic Q) (pickL l tl) a' w) (pickL l hd2) a) ll a0 w0 →
            midF P l.toArray (NoPanic Q) S (fun a w => S w → anyB P .any l.toArray (NoPanic Q) S (fun j => tl.contains j) (hd2.length + tl.length) fin2 a w) ll a0 w0 := by
          intro ll
          induction ll with
          | nil => exact fun a0 w0 h0 hS => last a0 w0 hS h0
          | cons o ll ih =>
            intro a0 w0 h0 K hK
            exact h0 K (fun a2 w2 hs2 hm2 => hK a2 w2 hs2 (ih a2 w2 hm2))
        have keyH : ∀ (ll : List Oper) (a0 : Act), headK P l.toArray S (fun a' => midF P l.toArray (NoPanic Q) S (fun a w => headK P l.toArray (fun _ => True) (fun a' => wpList P l.toArray (NoPanic Q) (pickL l tl) a' w) (pickL l hd2) a) (pickL l mid) a' w.drew) ll a0 →
            headK P l.toArray S (fun a' => anyB P .any l.toArray (NoPanic Q) S (fun j => tl.contains j) (mid.length + (hd2.length + tl.length)) fin a' w.drew) ll a0 := by
          intro ll
          induction ll with
          | nil => exact fun a0 h0 => anyB_midF mid fin a0 _ hS hsq (keyM _ _ _ h0)
          | cons o ll ih =>
            intro a0 h0
            obtain ⟨v, hy, hK⟩ := h0
            exact ⟨v, hy, ih _ hK⟩
        have h1 := anyB_headL (Q := NoPanic Q) (late := fun j => tl.contains j) (g := mid.length + (hd2.length + tl.length)) (fin := fin) hs (fun c a w i v hq => by cases hq) hd (Array.replicate l.toArray.size false) a w.drew Shut.new (fun i hi j hj => by
          have hjt : j ∈ tl := by simpa using hj
          exact List.all_eq_true.1 (List.all_eq_true.1 hlB j hjt) i hi) hgo hS (keyH _ _ h)
        rw [hn] at h1
        exact h1
end
end Go.Proofs.YtcamcnahkdiefaaGreat
