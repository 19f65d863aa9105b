/- Sums of both sides. -/
import Derived.Test.YtcamcnahkdiefaaPv
namespace Go.Proofs.Ytcamcnahkdiefaa
set_option linter.unusedVariables false
set_option linter.unusedSimpArgs false
open Go.RowKit
theorem mergeT_len2 {n : Nat} {a b : List Tm} (ha : LenT n a) (hb : LenT n b) : LenT n (mergeT a b) := fun t ht => by
  obtain ⟨_, s, hs, e⟩ := mem_merge a b t ht
  rw [← e]; exact (ha.app hb) s hs
theorem OkP.len6 {vars : Int} {n : Nat} {ts : List Tm} (h : OkP vars n ts) : ∀ t ∈ ts, t.2.length ≤ 1000000 := fun t ht => by
  have := h.can.len t ht; have := h.n64; omega
set_option maxRecDepth 100000 in
set_option maxHeartbeats 6400000 in
theorem RAdd_good (P Q : Nat → Prop) (va : Int) (a b : Option Addr) (n c m d : Nat) (A B : List Tm) (w : World) (h : TOut P w a n c A) (h' : TOut Q w b m d B) (hQA : checkP va A = true) (hQB : checkP va B = true) (V : Int) (L : List Tm) (E : Int) (hV : mkV va (A ++ B) = V) (hL : mkL va (A ++ B) = L) (hE : mkE va (A ++ B) = E) :
    Calls Try.prog 28 #[.agg #[.int .i64 va, .slice a n c], .agg #[.int .i64 va, .slice b m d]] w (PolyOut V L E w) := by
  obtain ⟨hX1, hX2, hX3, hb0, hz0⟩ := three_boxes w 24 24 24 #[.int .i64 va, .slice a n c] #[.int .i64 va, .slice b m d] #[.int .i64 0, .slice none 0 0]
  obtain ⟨W0, hW0⟩ : ∃ W0, ((w.alloc (.cells #[.int .i64 va, .slice a n c] 24)).alloc (.cells #[.int .i64 va, .slice b m d] 24)).alloc (.cells #[.int .i64 0, .slice none 0 0] 24) = W0 := ⟨_, rfl⟩
  rw [hW0] at hX1 hX2 hX3 hb0 hz0
  have hokA := checkP_ok hQA
  have hokB := checkP_ok hQB
  have hn4 : n ≤ 4096 := by rw [h.len]; exact hokA.len
  have hm4 : m ≤ 4096 := by rw [h'.len]; exact hokB.len
  have HCA := hide (RCheck_calls va a n c A h.len W0 (h.at_.at_.belowN hb0) (by omega) hokA.len6 true hQA)
  have HCB := hide (fun (W : World) (k : Below W0.heap.size W0 W) => RCheck_calls va b m d B h'.len W ((h'.at_.at_.belowN hb0).belowN k) (by omega) hokB.len6 true hQB)
  obtain ⟨p0, p1, p2, p3⟩ := hX1.c2
  obtain ⟨q0, q1, q2, q3⟩ := hX2.c2
  have HW0 := hide hW0
  have e1 : (va != va) = false := by simp
  have e2 : (va == va) = true := by simp
  have i1 : w.heap.size + 1 + 1 ≠ w.heap.size := by omega
  have i2 : w.heap.size + 1 + 1 ≠ w.heap.size + 1 := by omega
  have i3 : w.heap.size ≠ w.heap.size + 1 + 1 := by omega
  have i4 : w.heap.size + 1 ≠ w.heap.size + 1 + 1 := by omega
  obtain ⟨k1, k2, k3⟩ := mk_merge hokA hokB
  rw [← k1] at hE
  rw [← k2] at hV
  rw [← k3] at hL
  obtain ⟨M, hM⟩ : ∃ M, mergeT A B = M := ⟨_, rfl⟩
  have hlB : LenT va.toNat B := hokB.can.len
  have hMl : M.length ≤ 8192 := by rw [← hM]; have := merge_len A B; have := hokA.len; have := hokB.len; omega
  have hM6 : ∀ t ∈ M, t.2.length ≤ 1000000 := fun t ht => by rw [← hM] at ht; have := mergeT_len2 hokA.can.len hlB t ht; have := hokA.n64; omega
  have HMG := hide (fun (W : World) (k : Below w.heap.size w W) => MergedT (fun q => P q ∨ Q q) va.toNat a b n m c d A B W ((h.belowN k).imp fun q => .inl) ((h'.belowN k).imp fun q => .inr) (by omega) (by omega) hokA.can.len hlB (by have := hokA.n64; omega) M hM)
  rw [hM] at hV hL hE
  have HMK := hide (fun (W : World) (a3 : Option Addr) (n3 c3 : Nat) (R : Nat → Prop) (k : TOut R W a3 n3 c3 M) => RMake_calls R va a3 n3 c3 M W k (by rw [k.len]; omega) hM6 V L E hV hL hE)
  clear hQA hQB h h' hW0 hokA hokB hV hL hE k1 k2 k3 hM hlB hM6
  go_enter Try.func28, Try.ntmps28
  go_wp2_with (first
    | (have hgd := hb1; go_at_call 22; go_must ((with_reducible refine (HCB.out _ hb1).mono ?_); rintro v w2 ⟨rfl, hb2⟩; have hB2 := hb1.trans (hb2.mono hb1.size); have hX5 := hX3.belowN hB2; obtain ⟨r0, r1, r2, r3⟩ := (hX1.belowN hB2).c2; obtain ⟨s0, s1, s2, s3⟩ := (hX2.belowN hB2).c2))
    | (go_at_call 22; go_must ((rw [HW0.out]); (with_reducible refine (HCA.out).mono ?_); rintro v w1 ⟨rfl, hb1⟩; obtain ⟨s0, s1, s2, s3⟩ := (hX2.belowN hb1).c2)))
  have hBz := hb0.trans (hB2.mono hb0.size)
  have hBw := Below.drew (Below.refl w2.heap.size w2)
  have hzz := hBz.size
  go_region_held3 (fun w' => w'.cell? ⟨w.heap.size, 0, none⟩ = some (.int .i64 va) ∧ w'.cell? ⟨w.heap.size, 1, none⟩ = some (.slice a n c) ∧ w'.cell? ⟨w.heap.size + 1, 1, none⟩ = some (.slice b m d)) (go_keep)
    (first
      | (go_at_call 48; go_must ((with_reducible refine (HMG.out _ (hBz.trans (hBw.mono hzz))).mono ?_); rintro v w3 ⟨a3, n3, c3, rfl, hT3, hb3⟩; have hB3 := hBw.trans (hb3.mono hBw.size); obtain ⟨t0, t1, t2, t3⟩ := ((hX1.belowN hB2).belowN hB3).c2; obtain ⟨u0, u1, u2, u3⟩ := ((hX2.belowN hB2).belowN hB3).c2))
      | (go_at_call 16; go_must ((with_reducible refine (HMK.out _ _ _ _ _ hT3).mono ?_); rintro v w5 ⟨a5, n5, c5, rfl, hT5, hb5⟩; have hB5 := hB3.trans (hb5.mono hB3.size); have hX9 := hX5.belowN hB5; obtain ⟨x0, x1, x2, x3⟩ := hX9.c2; obtain ⟨t4, t5, t6, t7⟩ := ((hX1.belowN hB2).belowN hB5).c2; obtain ⟨u4, u5, u6, u7⟩ := ((hX2.belowN hB2).belowN hB5).c2)))
  go_wp2
  have hF6 := (hX9.set_ 0 (.int .i64 V)).set_ 1 (.slice a5 n5 c5)
  refine bodyPost_ret (results_rowP rfl _ _ (w.heap.size + 1 + 1) _ #[.int .i64 V, .slice a5 n5 c5] (0, 0) _ rfl hF6 Try.underlying24 rfl (by kernel_rfl)) rfl ?_
  exact PolyOut.stored (hBz.trans (hB5.mono hzz)) hT5 (by omega) (hX5.belowN hB3).lt (Nat.le_trans hzz hB3.size)
theorem AtHH.two {P Q : Nat → Prop} {w : World} {a b : Option Addr} {n c m d : Nat} {A B : List Tm} (h : TOut P w a n c A) (h' : TOut Q w b m d B) :
    ∃ l1 l2 : List TmH, (∀ W g, Below w.heap.size w W → Blk W g 22 #[.slice a n c, .slice b m d] → AtHH W (some ⟨g, 0, none⟩) [l1, l2]) ∧ n + m = [l1, l2].flatten.length ∧
      ∀ (W W' : World) (B' : Nat) (a' : Option Addr) (c' : Nat), Below w.heap.size w W' → Own W' B' 57 a' c' [l1, l2].flatten → TOut (fun _ => True) W' a' (n + m) c' (A ++ B) := by
  obtain ⟨l1, a1, a2, a3, _, _⟩ := h.at_
  obtain ⟨l2, b1, b2, b3, _, _⟩ := h'.at_
  have e1 : n = l1.length := by rw [h.len, a2]
  have e2 : m = l2.length := by rw [h'.len, b2]
  refine ⟨l1, l2, fun W g hb hB => ?_, by simp [e1, e2], fun W W' B' a' c' hb ho => ?_⟩
  · refine ⟨[⟨a, n, c⟩, ⟨b, m, d⟩], At.ofBlk hB _ rfl, rfl, fun i x l q1 q2 => ?_⟩
    match i with
    | 0 =>
      simp at q1 q2
      subst q1 q2
      exact ⟨e1, h.cap, h.max, a1.belowN hb⟩
    | 1 =>
      simp at q1 q2
      subst q1 q2
      exact ⟨e2, h'.cap, h'.max, b1.belowN hb⟩
    | i + 2 => simp at q1
  · have hf : [l1, l2].flatten = l1 ++ l2 := by simp
    rw [hf] at ho
    have hcap := ho.cap
    have hl : (l1 ++ l2).length = n + m := by rw [List.length_append, ← e1, ← e2]
    rw [hl] at hcap
    refine ⟨by rw [List.length_append, h.len, h'.len], hcap.1, Nat.le_trans hcap.2 (by decide), AtT.any ⟨l1 ++ l2, ho.at_, by simp [a2, b2], fun i x t q1 q2 => ?_⟩⟩
    by_cases hi : i < l1.length
    · rw [List.getElem?_append_left hi] at q1
      rw [List.getElem?_append_left (by omega)] at q2
      exact (a3 i x t q1 q2).belowN hb
    · rw [List.getElem?_append_right (by omega)] at q1
      rw [List.getElem?_append_right (by omega), ← a2] at q2
      exact (b3 _ x t q1 q2).belowN hb
set_option maxRecDepth 100000 in
set_option maxHeartbeats 6400000 in
theorem PAdd_good (P Q : Nat → Prop) (va : Int) (a b : Option Addr) (n c m d : Nat) (A B : List Tm) (w : World) (h : TOut P w a n c A) (h' : TOut Q w b m d B) (hQA : checkP va A = true) (hQB : checkP va B = true) (V : Int) (L : List Tm) (E : Int) (hV : mkV va (A ++ B) = V) (hL : mkL va (A ++ B) = L) (hE : mkE va (A ++ B) = E) :
    Calls Try.prog 23 #[.agg #[.int .i64 va, .slice a n c], .agg #[.int .i64 va, .slice b m d]] w (PolyOut V L E w) := by
  obtain ⟨hX1, hX2, hX3, hb0, hz0⟩ := three_boxes w 24 24 24 #[.int .i64 va, .slice a n c] #[.int .i64 va, .slice b m d] #[.int .i64 0, .slice none 0 0]
  obtain ⟨W0, hW0⟩ : ∃ W0, ((w.alloc (.cells #[.int .i64 va, .slice a n c] 24)).alloc (.cells #[.int .i64 va, .slice b m d] 24)).alloc (.cells #[.int .i64 0, .slice none 0 0] 24) = W0 := ⟨_, rfl⟩
  rw [hW0] at hX1 hX2 hX3 hb0 hz0
  have hokA := checkP_ok hQA
  have hokB := checkP_ok hQB
  have hn4 : n ≤ 4096 := by rw [h.len]; exact hokA.len
  have hm4 : m ≤ 4096 := by rw [h'.len]; exact hokB.len
  have HCA := hide (Check_calls va a n c A h.len W0 (h.at_.at_.belowN hb0) (by omega) hokA.len6 true hQA)
  have HCB := hide (fun (W : World) (k : Below W0.heap.size W0 W) => Check_calls va b m d B h'.len W ((h'.at_.at_.belowN hb0).belowN k) (by omega) hokB.len6 true hQB)
  obtain ⟨p0, p1, p2, p3⟩ := hX1.c2
  obtain ⟨q0, q1, q2, q3⟩ := hX2.c2
  have HW0 := hide hW0
  have e1 : (va != va) = false := by simp
  have e2 : (va == va) = true := by simp
  have i1 : w.heap.size + 1 + 1 ≠ w.heap.size := by omega
  have i2 : w.heap.size + 1 + 1 ≠ w.heap.size + 1 := by omega
  have i3 : w.heap.size ≠ w.heap.size + 1 + 1 := by omega
  have i4 : w.heap.size + 1 ≠ w.heap.size + 1 + 1 := by omega
  obtain ⟨l1, l2, t1, t2, t3⟩ := AtHH.two h h'
  have HCC := hide (fun (W : World) (g : Nat) (k : Below w.heap.size w W) (kb : Blk W g 22 #[.slice a n c, .slice b m d]) => ConcatT_calls (some ⟨g, 0, none⟩) 2 2 [l1, l2] W rfl (t1 W g k kb) (by decide) (by rw [← t2]; omega) (n + m) t2)
  have HT3 := hide t3
  have hM6 : ∀ t ∈ A ++ B, t.2.length ≤ 1000000 := fun t ht => (List.mem_append.1 ht).elim (hokA.len6 t) (hokB.len6 t)
  have HMK := hide (fun (W : World) (a3 : Option Addr) (c3 : Nat) (k : TOut (fun _ => True) W a3 (n + m) c3 (A ++ B)) => PMake_calls (fun _ => True) va a3 (n + m) c3 (A ++ B) W k (by omega) hM6 V L E hV hL hE)
  clear hQA hQB h h' hW0 hokA hokB hV hL hE hM6 t1 t2 t3
  go_enter Try.func23, Try.ntmps23
  go_wp2_with (first
    | (have hgd := hb1; go_at_call 21; go_must ((with_reducible refine (HCB.out _ hb1).mono ?_); rintro v w2 ⟨rfl, hb2⟩; have hB2 := hb1.trans (hb2.mono hb1.size); have hX5 := hX3.belowN hB2; obtain ⟨r0, r1, r2, r3⟩ := (hX1.belowN hB2).c2; obtain ⟨s0, s1, s2, s3⟩ := (hX2.belowN hB2).c2))
    | (go_at_call 21; go_must ((rw [HW0.out]); (with_reducible refine (HCA.out).mono ?_); rintro v w1 ⟨rfl, hb1⟩; obtain ⟨s0, s1, s2, s3⟩ := (hX2.belowN hb1).c2)))
  have hBz := hb0.trans (hB2.mono hb0.size)
  have hBw := Below.drew (Below.refl w2.heap.size w2)
  have hzz := hBz.size
  have hW1b : Below w2.heap.size w2 (w2.alloc (.cells #[.slice a n c, .slice b m d] 22)).drew := Below.drew (below_box w2 _)
  have hW1k : Blk (w2.alloc (.cells #[.slice a n c, .slice b m d] 22)).drew w2.heap.size 22 #[.slice a n c, .slice b m d] := Blk.new w2 _ _
  go_region_held3 (fun w' => w'.cell? ⟨w.heap.size, 0, none⟩ = some (.int .i64 va) ∧ w'.cell? ⟨w.heap.size, 1, none⟩ = some (.slice a n c) ∧ w'.cell? ⟨w.heap.size + 1, 1, none⟩ = some (.slice b m d)) (go_keep)
    (first
      | (go_at_call 44; go_must ((with_reducible refine (HCC.out _ _ (hBz.trans (hW1b.mono hzz)) hW1k).mono ?_); rintro v w3 ⟨a3, c3, rfl, hown3, hb3⟩; have hB3 := hW1b.trans (hb3.mono hW1b.size); have hT3 := HT3.out w3 w3 _ a3 c3 (hBz.trans (hB3.mono hzz)) hown3; obtain ⟨t0, t1, t2, t3⟩ := ((hX1.belowN hB2).belowN hB3).c2; obtain ⟨u0, u1, u2, u3⟩ := ((hX2.belowN hB2).belowN hB3).c2))
      | (go_at_call 15; go_must ((with_reducible refine (HMK.out _ _ _ hT3).mono ?_); rintro v w5 ⟨a5, n5, c5, rfl, hT5, hb5⟩; have hB5 := hB3.trans (hb5.mono hB3.size); have hX9 := hX5.belowN hB5; obtain ⟨x0, x1, x2, x3⟩ := hX9.c2; obtain ⟨t4, t5, t6, t7⟩ := ((hX1.belowN hB2).belowN hB5).c2; obtain ⟨u4, u5, u6, u7⟩ := ((hX2.belowN hB2).belowN hB5).c2)))
  go_wp2
  have hF6 := (hX9.set_ 0 (.int .i64 V)).set_ 1 (.slice a5 n5 c5)
  refine bodyPost_ret (results_rowP rfl _ _ (w.heap.size + 1 + 1) _ #[.int .i64 V, .slice a5 n5 c5] (0, 0) _ rfl hF6 Try.underlying24 rfl (by kernel_rfl)) rfl ?_
  exact PolyOut.stored (hBz.trans (hB5.mono hzz)) hT5 (by omega) (hX5.belowN hB3).lt (Nat.le_trans hzz hB3.size)
theorem addOk_true {va vb : Int} {A B : List Tm} (h : addOk va A vb B = true) : checkP va A = true ∧ checkP vb B = true ∧ va = vb := by
  unfold addOk at h
  simp only [Bool.and_eq_true, decide_eq_true_eq] at h
  exact ⟨h.1.1, h.1.2, h.2⟩
theorem res_false (vars : Int) (l : List Tm) : resE false vars l = 2 ∧ resV false vars l = 0 ∧ resL false vars l = [] := ⟨rfl, rfl, rfl⟩
theorem res_true (vars : Int) (l : List Tm) : resE true vars l = mkE vars l ∧ resV true vars l = mkV vars l ∧ resL true vars l = mkL vars l := ⟨rfl, rfl, rfl⟩
theorem PAdd_calls (P Q : Nat → Prop) (va vb : Int) (a b : Option Addr) (n c m d : Nat) (A B : List Tm) (w : World) (h : TOut P w a n c A) (h' : TOut Q w b m d B) (hl : n ≤ 1000000) (hl' : m ≤ 1000000) (hll : ∀ t ∈ A, t.2.length ≤ 1000000) (hll' : ∀ t ∈ B, t.2.length ≤ 1000000) (V : Int) (L : List Tm) (E : Int) (hV : resV (addOk va A vb B) va (A ++ B) = V) (hL : resL (addOk va A vb B) va (A ++ B) = L) (hE : resE (addOk va A vb B) va (A ++ B) = E) :
    Calls Try.prog 23 #[.agg #[.int .i64 va, .slice a n c], .agg #[.int .i64 vb, .slice b m d]] w (PolyOut V L E w) := by
  cases hok : addOk va A vb B with
  | false =>
    rw [hok] at hV hL hE
    subst hV hL hE
    exact PAdd_bad P Q va vb a b n c m d A B w h h' hl hl' hll hll' hok
  | true =>
    rw [hok] at hV hL hE
    obtain ⟨h1, h2, rfl⟩ := addOk_true hok
    exact PAdd_good P Q va a b n c m d A B w h h' h1 h2 V L E hV hL hE
theorem RAdd3_calls (P Q : Nat → Prop) (va vb : Int) (a b : Option Addr) (n c m d : Nat) (A B : List Tm) (w : World) (h : TOut P w a n c A) (h' : TOut Q w b m d B) (hl : n ≤ 1000000) (hl' : m ≤ 1000000) (hll : ∀ t ∈ A, t.2.length ≤ 1000000) (hll' : ∀ t ∈ B, t.2.length ≤ 1000000) (V : Int) (L : List Tm) (E : Int) (hV : resV (addOk va A vb B) va (A ++ B) = V) (hL : resL (addOk va A vb B) va (A ++ B) = L) (hE : resE (addOk va A vb B) va (A ++ B) = E) :
    Calls Try.prog 28 #[.agg #[.int .i64 va, .slice a n c], .agg #[.int .i64 vb, .slice b m d]] w (PolyOut V L E w) := by
  cases hok : addOk va A vb B with
  | false =>
    rw [hok] at hV hL hE
    subst hV hL hE
    exact RAdd_bad P Q va vb a b n c m d A B w h h' hl hl' hll hll' hok
  | true =>
    rw [hok] at hV hL hE
    obtain ⟨h1, h2, rfl⟩ := addOk_true hok
    exact RAdd_good P Q va a b n c m d A B w h h' h1 h2 V L E hV hL hE
end Go.Proofs.Ytcamcnahkdiefaa
