/- Several texts of mine in one file. -/
import Derived.Test.YtcamcnahkdiefaaGreatYMCal
import Derived.Test.YtcamcnahkdiefaaGreatYMCac
/- Several texts of mine in one file: Pw, Px, Py, Pz, Pz2. -/
/- Sums of both sides. -/
namespace Go.Proofs.YtcamcnahkdiefaaGreat
set_option linter.unusedVariables false
set_option linter.unusedSimpArgs false
open Go.RowKit
theorem mergeT_len2 {n : Nat} {a b : List Tm} (ha : LenT n a) (hb : LenT n b) : LenT n (mergeT a b) := fun t ht => by
  obtain ⟨_, s, hs, e⟩ := mem_merge a b t ht
  rw [← e]; exact (ha.app hb) s hs
theorem OkP.len6 {vars : Int} {n : Nat} {ts : List Tm} (h : OkP vars n ts) : ∀ t ∈ ts, t.2.length ≤ 1000000 := fun t ht => by
  have := h.can.len t ht; have := h.n64; omega
set_option maxRecDepth 100000 in
set_option maxHeartbeats 6400000 in
theorem RAdd_good (P Q : Nat → Prop) (va : Int) (a b : Option Addr) (n c m d : Nat) (A B : List Tm) (w : World) (h : TOut P w a n c A) (h' : TOut Q w b m d B) (hQA : checkP va A = true) (hQB : checkP va B = true) (V : Int) (L : List Tm) (E : Int) (hV : mkV va (A ++ B) = V) (hL : mkL va (A ++ B) = L) (hE : mkE va (A ++ B) = E) :
    Calls Tryz.prog 133 #[.agg #[.int .i64 va, .slice a n c], .agg #[.int .i64 va, .slice b m d]] w (PolyOut V L E w) := by
  obtain ⟨hX1, hX2, hX3, hb0, hz0⟩ := three_boxes w 42 42 42 #[.int .i64 va, .slice a n c] #[.int .i64 va, .slice b m d] #[.int .i64 0, .slice none 0 0]
  obtain ⟨W0, hW0⟩ : ∃ W0, ((w.alloc (.cells #[.int .i64 va, .slice a n c] 42)).alloc (.cells #[.int .i64 va, .slice b m d] 42)).alloc (.cells #[.int .i64 0, .slice none 0 0] 42) = W0 := ⟨_, rfl⟩
  rw [hW0] at hX1 hX2 hX3 hb0 hz0
  have hokA := checkP_ok hQA
  have hokB := checkP_ok hQB
  have hn4 : n ≤ 4096 := by rw [h.len]; exact hokA.len
  have hm4 : m ≤ 4096 := by rw [h'.len]; exact hokB.len
  have HCA := hide (RCheck_calls va a n c A h.len W0 (h.at_.at_.belowN hb0) (by omega) hokA.len6 true hQA)
  have HCB := hide (fun (W : World) (k : Below W0.heap.size W0 W) => RCheck_calls va b m d B h'.len W ((h'.at_.at_.belowN hb0).belowN k) (by omega) hokB.len6 true hQB)
  obtain ⟨p0, p1, p2, p3⟩ := hX1.c2
  obtain ⟨q0, q1, q2, q3⟩ := hX2.c2
  have HW0 := hide hW0
  have e1 : (va != va) = false := by simp
  have e2 : (va == va) = true := by simp
  have i1 : w.heap.size + 1 + 1 ≠ w.heap.size := by omega
  have i2 : w.heap.size + 1 + 1 ≠ w.heap.size + 1 := by omega
  have i3 : w.heap.size ≠ w.heap.size + 1 + 1 := by omega
  have i4 : w.heap.size + 1 ≠ w.heap.size + 1 + 1 := by omega
  obtain ⟨k1, k2, k3⟩ := mk_merge hokA hokB
  rw [← k1] at hE
  rw [← k2] at hV
  rw [← k3] at hL
  obtain ⟨M, hM⟩ : ∃ M, mergeT A B = M := ⟨_, rfl⟩
  have hlB : LenT va.toNat B := hokB.can.len
  have hMl : M.length ≤ 8192 := by rw [← hM]; have := merge_len A B; have := hokA.len; have := hokB.len; omega
  have hM6 : ∀ t ∈ M, t.2.length ≤ 1000000 := fun t ht => by rw [← hM] at ht; have := mergeT_len2 hokA.can.len hlB t ht; have := hokA.n64; omega
  have HMG := hide (fun (W : World) (k : Below w.heap.size w W) => MergedT (fun q => P q ∨ Q q) va.toNat a b n m c d A B W ((h.belowN k).imp fun q => .inl) ((h'.belowN k).imp fun q => .inr) (by omega) (by omega) hokA.can.len hlB (by have := hokA.n64; omega) M hM)
  rw [hM] at hV hL hE
  have HMK := hide (fun (W : World) (a3 : Option Addr) (n3 c3 : Nat) (R : Nat → Prop) (k : TOut R W a3 n3 c3 M) => RMake_calls R va a3 n3 c3 M W k (by rw [k.len]; omega) hM6 V L E hV hL hE)
  clear hQA hQB h h' hW0 hokA hokB hV hL hE k1 k2 k3 hM hlB hM6
  go_enter Tryz.func133, Tryz.ntmps133
  go_wp2_with (first
    | (have hgd := hb1; go_at_call 50; go_must ((with_reducible refine (HCB.out _ hb1).mono ?_); rintro v w2 ⟨rfl, hb2⟩; have hB2 := hb1.trans (hb2.mono hb1.size); have hX5 := hX3.belowN hB2; obtain ⟨r0, r1, r2, r3⟩ := (hX1.belowN hB2).c2; obtain ⟨s0, s1, s2, s3⟩ := (hX2.belowN hB2).c2))
    | (go_at_call 50; go_must ((rw [HW0.out]); (with_reducible refine (HCA.out).mono ?_); rintro v w1 ⟨rfl, hb1⟩; obtain ⟨s0, s1, s2, s3⟩ := (hX2.belowN hb1).c2)))
  have hBz := hb0.trans (hB2.mono hb0.size)
  have hBw := Below.drew (Below.refl w2.heap.size w2)
  have hzz := hBz.size
  go_region_held3 (fun w' => w'.cell? ⟨w.heap.size, 0, none⟩ = some (.int .i64 va) ∧ w'.cell? ⟨w.heap.size, 1, none⟩ = some (.slice a n c) ∧ w'.cell? ⟨w.heap.size + 1, 1, none⟩ = some (.slice b m d)) (go_keep)
    (first
      | (go_at_call 163; go_must ((with_reducible refine (HMG.out _ (hBz.trans (hBw.mono hzz))).mono ?_); rintro v w3 ⟨a3, n3, c3, rfl, hT3, hb3⟩; have hB3 := hBw.trans (hb3.mono hBw.size); obtain ⟨t0, t1, t2, t3⟩ := ((hX1.belowN hB2).belowN hB3).c2; obtain ⟨u0, u1, u2, u3⟩ := ((hX2.belowN hB2).belowN hB3).c2))
      | (go_at_call 91; go_must ((with_reducible refine (HMK.out _ _ _ _ _ hT3).mono ?_); rintro v w5 ⟨a5, n5, c5, rfl, hT5, hb5⟩; have hB5 := hB3.trans (hb5.mono hB3.size); have hX9 := hX5.belowN hB5; obtain ⟨x0, x1, x2, x3⟩ := hX9.c2; obtain ⟨t4, t5, t6, t7⟩ := ((hX1.belowN hB2).belowN hB5).c2; obtain ⟨u4, u5, u6, u7⟩ := ((hX2.belowN hB2).belowN hB5).c2)))
  go_wp2
  have hF6 := (hX9.set_ 0 (.int .i64 V)).set_ 1 (.slice a5 n5 c5)
  refine bodyPost_ret (results_rowP rfl _ _ (w.heap.size + 1 + 1) _ #[.int .i64 V, .slice a5 n5 c5] (0, 0) _ rfl hF6 Tryz.underlying42 rfl (by kernel_rfl)) rfl ?_
  exact PolyOut.stored (hBz.trans (hB5.mono hzz)) hT5 (by omega) (hX5.belowN hB3).lt (Nat.le_trans hzz hB3.size)
theorem AtHH.two {P Q : Nat → Prop} {w : World} {a b : Option Addr} {n c m d : Nat} {A B : List Tm} (h : TOut P w a n c A) (h' : TOut Q w b m d B) :
    ∃ l1 l2 : List TmH, (∀ W g, Below w.heap.size w W → Blk W g 40 #[.slice a n c, .slice b m d] → AtHH W (some ⟨g, 0, none⟩) [l1, l2]) ∧ n + m = [l1, l2].flatten.length ∧
      ∀ (W W' : World) (B' : Nat) (a' : Option Addr) (c' : Nat), Below w.heap.size w W' → Own W' B' 92 a' c' [l1, l2].flatten → TOut (fun _ => True) W' a' (n + m) c' (A ++ B) := by
  obtain ⟨l1, a1, a2, a3, _, _⟩ := h.at_
  obtain ⟨l2, b1, b2, b3, _, _⟩ := h'.at_
  have e1 : n = l1.length := by rw [h.len, a2]
  have e2 : m = l2.length := by rw [h'.len, b2]
  refine ⟨l1, l2, fun W g hb hB => ?_, by simp [e1, e2], fun W W' B' a' c' hb ho => ?_⟩
  · refine ⟨[⟨a, n, c⟩, ⟨b, m, d⟩], At.ofBlk hB _ rfl, rfl, fun i x l q1 q2 => ?_⟩
    match i with
    | 0 =>
      simp at q1 q2
      subst q1 q2
      exact ⟨e1, h.cap, h.max, a1.belowN hb⟩
    | 1 =>
      simp at q1 q2
      subst q1 q2
      exact ⟨e2, h'.cap, h'.max, b1.belowN hb⟩
    | i + 2 => simp at q1
  · have hf : [l1, l2].flatten = l1 ++ l2 := by simp
    rw [hf] at ho
    have hcap := ho.cap
    have hl : (l1 ++ l2).length = n + m := by rw [List.length_append, ← e1, ← e2]
    rw [hl] at hcap
    refine ⟨by rw [List.length_append, h.len, h'.len], hcap.1, Nat.le_trans hcap.2 (by decide), AtT.any ⟨l1 ++ l2, ho.at_, by simp [a2, b2], fun i x t q1 q2 => ?_⟩⟩
    by_cases hi : i < l1.length
    · rw [List.getElem?_append_left hi] at q1
      rw [List.getElem?_append_left (by omega)] at q2
      exact (a3 i x t q1 q2).belowN hb
    · rw [List.getElem?_append_right (by omega)] at q1
      rw [List.getElem?_append_right (by omega), ← a2] at q2
      exact (b3 _ x t q1 q2).belowN hb
set_option maxRecDepth 100000 in
set_option maxHeartbeats 6400000 in
theorem PAdd_good (P Q : Nat → Prop) (va : Int) (a b : Option Addr) (n c m d : Nat) (A B : List Tm) (w : World) (h : TOut P w a n c A) (h' : TOut Q w b m d B) (hQA : checkP va A = true) (hQB : checkP va B = true) (V : Int) (L : List Tm) (E : Int) (hV : mkV va (A ++ B) = V) (hL : mkL va (A ++ B) = L) (hE : mkE va (A ++ B) = E) :
    Calls Tryz.prog 160 #[.agg #[.int .i64 va, .slice a n c], .agg #[.int .i64 va, .slice b m d]] w (PolyOut V L E w) := by
  obtain ⟨hX1, hX2, hX3, hb0, hz0⟩ := three_boxes w 42 42 42 #[.int .i64 va, .slice a n c] #[.int .i64 va, .slice b m d] #[.int .i64 0, .slice none 0 0]
  obtain ⟨W0, hW0⟩ : ∃ W0, ((w.alloc (.cells #[.int .i64 va, .slice a n c] 42)).alloc (.cells #[.int .i64 va, .slice b m d] 42)).alloc (.cells #[.int .i64 0, .slice none 0 0] 42) = W0 := ⟨_, rfl⟩
  rw [hW0] at hX1 hX2 hX3 hb0 hz0
  have hokA := checkP_ok hQA
  have hokB := checkP_ok hQB
  have hn4 : n ≤ 4096 := by rw [h.len]; exact hokA.len
  have hm4 : m ≤ 4096 := by rw [h'.len]; exact hokB.len
  have HCA := hide (Check_calls va a n c A h.len W0 (h.at_.at_.belowN hb0) (by omega) hokA.len6 true hQA)
  have HCB := hide (fun (W : World) (k : Below W0.heap.size W0 W) => Check_calls va b m d B h'.len W ((h'.at_.at_.belowN hb0).belowN k) (by omega) hokB.len6 true hQB)
  obtain ⟨p0, p1, p2, p3⟩ := hX1.c2
  obtain ⟨q0, q1, q2, q3⟩ := hX2.c2
  have HW0 := hide hW0
  have e1 : (va != va) = false := by simp
  have e2 : (va == va) = true := by simp
  have i1 : w.heap.size + 1 + 1 ≠ w.heap.size := by omega
  have i2 : w.heap.size + 1 + 1 ≠ w.heap.size + 1 := by omega
  have i3 : w.heap.size ≠ w.heap.size + 1 + 1 := by omega
  have i4 : w.heap.size + 1 ≠ w.heap.size + 1 + 1 := by omega
  obtain ⟨l1, l2, t1, t2, t3⟩ := AtHH.two h h'
  have HCC := hide (fun (W : World) (g : Nat) (k : Below w.heap.size w W) (kb : Blk W g 40 #[.slice a n c, .slice b m d]) => ConcatT_calls (some ⟨g, 0, none⟩) 2 2 [l1, l2] W rfl (t1 W g k kb) (by decide) (by rw [← t2]; omega) (n + m) t2)
  have HT3 := hide t3
  have hM6 : ∀ t ∈ A ++ B, t.2.length ≤ 1000000 := fun t ht => (List.mem_append.1 ht).elim (hokA.len6 t) (hokB.len6 t)
  have HMK := hide (fun (W : World) (a3 : Option Addr) (c3 : Nat) (k : TOut (fun _ => True) W a3 (n + m) c3 (A ++ B)) => PMake_calls (fun _ => True) va a3 (n + m) c3 (A ++ B) W k (by omega) hM6 V L E hV hL hE)
  clear hQA hQB h h' hW0 hokA hokB hV hL hE hM6 t1 t2 t3
  go_enter Tryz.func160, Tryz.ntmps160
  go_wp2_with (first
    | (have hgd := hb1; go_at_call 49; go_must ((with_reducible refine (HCB.out _ hb1).mono ?_); rintro v w2 ⟨rfl, hb2⟩; have hB2 := hb1.trans (hb2.mono hb1.size); have hX5 := hX3.belowN hB2; obtain ⟨r0, r1, r2, r3⟩ := (hX1.belowN hB2).c2; obtain ⟨s0, s1, s2, s3⟩ := (hX2.belowN hB2).c2))
    | (go_at_call 49; go_must ((rw [HW0.out]); (with_reducible refine (HCA.out).mono ?_); rintro v w1 ⟨rfl, hb1⟩; obtain ⟨s0, s1, s2, s3⟩ := (hX2.belowN hb1).c2)))
  have hBz := hb0.trans (hB2.mono hb0.size)
  have hBw := Below.drew (Below.refl w2.heap.size w2)
  have hzz := hBz.size
  have hW1b : Below w2.heap.size w2 (w2.alloc (.cells #[.slice a n c, .slice b m d] 40)).drew := Below.drew (below_box w2 _)
  have hW1k : Blk (w2.alloc (.cells #[.slice a n c, .slice b m d] 40)).drew w2.heap.size 40 #[.slice a n c, .slice b m d] := Blk.new w2 _ _
  go_region_held3 (fun w' => w'.cell? ⟨w.heap.size, 0, none⟩ = some (.int .i64 va) ∧ w'.cell? ⟨w.heap.size, 1, none⟩ = some (.slice a n c) ∧ w'.cell? ⟨w.heap.size + 1, 1, none⟩ = some (.slice b m d)) (go_keep)
    (first
      | (go_at_call 187; go_must ((with_reducible refine (HCC.out _ _ (hBz.trans (hW1b.mono hzz)) hW1k).mono ?_); rintro v w3 ⟨a3, c3, rfl, hown3, hb3⟩; have hB3 := hW1b.trans (hb3.mono hW1b.size); have hT3 := HT3.out w3 w3 _ a3 c3 (hBz.trans (hB3.mono hzz)) hown3; obtain ⟨t0, t1, t2, t3⟩ := ((hX1.belowN hB2).belowN hB3).c2; obtain ⟨u0, u1, u2, u3⟩ := ((hX2.belowN hB2).belowN hB3).c2))
      | (go_at_call 84; go_must ((with_reducible refine (HMK.out _ _ _ hT3).mono ?_); rintro v w5 ⟨a5, n5, c5, rfl, hT5, hb5⟩; have hB5 := hB3.trans (hb5.mono hB3.size); have hX9 := hX5.belowN hB5; obtain ⟨x0, x1, x2, x3⟩ := hX9.c2; obtain ⟨t4, t5, t6, t7⟩ := ((hX1.belowN hB2).belowN hB5).c2; obtain ⟨u4, u5, u6, u7⟩ := ((hX2.belowN hB2).belowN hB5).c2)))
  go_wp2
  have hF6 := (hX9.set_ 0 (.int .i64 V)).set_ 1 (.slice a5 n5 c5)
  refine bodyPost_ret (results_rowP rfl _ _ (w.heap.size + 1 + 1) _ #[.int .i64 V, .slice a5 n5 c5] (0, 0) _ rfl hF6 Tryz.underlying42 rfl (by kernel_rfl)) rfl ?_
  exact PolyOut.stored (hBz.trans (hB5.mono hzz)) hT5 (by omega) (hX5.belowN hB3).lt (Nat.le_trans hzz hB3.size)
end Go.Proofs.YtcamcnahkdiefaaGreat

/- Negatives of both sides. -/
namespace Go.Proofs.YtcamcnahkdiefaaGreat
set_option linter.unusedVariables false
set_option linter.unusedSimpArgs false
open Go.RowKit
theorem AtTP.lt {P : Nat → Prop} {w : World} {b off : Nat} {ts : List Tm} (h : AtTP P w (some ⟨b, off, none⟩) ts) (hne : 0 < ts.length) : b < w.heap.size := by
  obtain ⟨hs, h1, h2, _⟩ := h
  obtain ⟨b', off', e, hb⟩ := h1.lt (by rintro rfl; simp at h2; omega)
  injection e with e
  injection e with e _
  omega
def negT (l : List Tm) : List Tm := l.map fun t => (0 - t.1, t.2)
theorem negT_take {l : List Tm} {k : Nat} {t : Tm} (h : l[k]? = some t) : (negT l).take (k + 1) = (negT l).take k ++ [(0 - t.1, t.2)] := by
  unfold negT
  rw [List.take_add_one, List.getElem?_map, h]; rfl
theorem negT_right {vars : Int} {l : List Tm} (h : rightL vars l = true) : rightL vars (negT l) = true := by
  refine List.all_eq_true.2 fun t ht => ?_
  obtain ⟨s, hs, rfl⟩ := List.mem_map.1 ht
  exact List.all_eq_true.1 h s hs
theorem negT_len (l : List Tm) : (negT l).length = l.length := by simp [negT]
theorem NegW_calls (x : UInt64) (w : World) : Calls Tryz.prog 188 #[.int .u64 (x.toNat : Int)] w fun v w' => v = .returned (.int .u64 ((0 - x).toNat : Int)) ∧ w = w' := by
  have h := u64_neg x
  go_enter Tryz.func188, Tryz.ntmps188
  go_wp2
  go_ret
  exact ⟨rfl, rfl⟩
set_option maxRecDepth 100000 in
set_option maxHeartbeats 6400000 in
theorem PNeg_good (P : Nat → Prop) (va : Int) (a : Option Addr) (n c : Nat) (A : List Tm) (w : World) (h : TOut P w a n c A) (hQ : checkP va A = true) (V : Int) (L : List Tm) (E : Int) (hV : mkV va (negT A) = V) (hL : mkL va (negT A) = L) (hE : mkE va (negT A) = E) :
    Calls Tryz.prog 161 #[.agg #[.int .i64 va, .slice a n c]] w (PolyOut V L E w) := by
  obtain ⟨hX1, hX3, hb0, hz0⟩ := two_boxes w 42 42 #[.int .i64 va, .slice a n c] #[.int .i64 0, .slice none 0 0]
  obtain ⟨W0, hW0⟩ : ∃ W0, (w.alloc (.cells #[.int .i64 va, .slice a n c] 42)).alloc (.cells #[.int .i64 0, .slice none 0 0] 42) = W0 := ⟨_, rfl⟩
  rw [hW0] at hX1 hX3 hb0 hz0
  have hok := checkP_ok hQ
  have hn4 : n ≤ 4096 := by rw [h.len]; exact hok.len
  have HCA := hide (Check_calls va a n c A h.len W0 (h.at_.at_.belowN hb0) (by omega) hok.len6 true hQ)
  obtain ⟨p0, p1, p2, p3⟩ := hX1.c2
  have HW0 := hide hW0
  have HN := hide h.len
  have hat := h.at_.belowN hb0
  have HRT := hide hok.rt
  have HOK := hide hok
  have HV := hide hV
  have HL := hide hL
  have HE := hide hE
  have HH := hide (fun W => Heap_calls va.toNat va W)
  clear hQ h hW0 hok hV hL hE
  go_enter Tryz.func161, Tryz.ntmps161
  go_wp2_with (first
    | (go_at_call 49; go_must ((rw [HW0.out]); (with_reducible refine (HCA.out).mono ?_); rintro v w1 ⟨rfl, hb1⟩; obtain ⟨r0, r1, r2, r3⟩ := (hX1.belowN hb1).c2))
    | (go_at_call 73; go_must ((with_reducible refine (HH.out _).mono ?_); rintro v w2 ⟨rfl, hH2, hb2⟩; have hB2 := hb1.trans (hb2.mono hb1.size); obtain ⟨s0, s1, s2, s3⟩ := (hX1.belowN hB2).c2)))
  obtain ⟨g, hg⟩ : ∃ g, g = w1.heap.size := ⟨_, rfl⟩
  rw [← hg] at hH2 ⊢
  have hX5 := hX3.belowN hb1
  have hgw : w.heap.size + 1 < g := by rw [hg]; exact hX5.lt
  have hBz := hb0.trans (hb1.mono hb0.size)
  have HG := hide hg
  have hat1 := hat.belowN hb1
  have hb2g : Below g w1 w2 := by rw [hg]; exact hb2
  clear hg HH HCA hb2 hB2
  go_loopw [21] (fun iv wr => ∃ k : Nat, iv = .int .i64 k ∧ k ≤ n ∧ HeapT wr g va va.toNat ((negT A).take k) ∧ Below g w1 wr) (fun iv _ => n - (intOf iv).toNat)
  case atStart => exact ⟨0, rfl, by omega, hH2, hb2g⟩
  case round =>
    obtain ⟨k, rfl, hk, hH, hbr⟩ := hrel
    have hbX : Below w1.heap.size w1 wr := hbr.mono (by rw [HG.out]; exact Nat.le_refl _)
    have hzr := hH.lt
    have hXr := hX5.belowN hbX
    have hBr := hBz.trans (hbX.mono hBz.size)
    obtain ⟨x0, x1, x2, x3⟩ := hXr.c2
    by_cases hlt : k < n
    · obtain ⟨b1, off1, t, ea, en, ec, rfl, ht, t0, t1, hrow, hfar⟩ := hat1.getF hbX (k := k) (by rw [← HN.out]; exact hlt)
      have hk0 : (0 : Int) ≤ (k : Int) := by omega
      have hk1 : (k : Int) < (n : Int) := by omega
      have hen : en = t.2.length := hrow.out.2.1
      have hrt := HRT.out t (List.mem_of_getElem? ht.out)
      have hlen := rightT_len hrt
      have hv := HOK.out.n64
      have hbx := below_box wr (.cells #[.int .u64 (t.1.toNat : Int), .slice ea en ec] 92)
      have hT := Blk.new wr 92 #[.int .u64 (t.1.toNat : Int), .slice ea en ec]
      obtain ⟨r0, r1, r2, r3⟩ := hT.c2
      have hea := hrow.out.2.2.2.2.belowN hbx
      obtain ⟨z, hz⟩ : ∃ z, 0 - t.1 = z := ⟨_, rfl⟩
      have HNW := hide (fun W => NegW_calls t.1 W)
      have HTK := hide (negT_take ht.out)
      rw [hz] at HNW HTK
      have HPT := hide (Put_calls ((wr.alloc (.cells #[.int .u64 (t.1.toNat : Int), .slice ea en ec] 92)).drew) g va va.toNat ((negT A).take k) ((hH.belowN hbx).belowN (Below.drew (Below.refl _ _))) (by rw [List.length_take]; omega) (z, t.2) ea en ec hen (by show t.2.length = _; omega) (by omega) (rightT_in hrt) hea)
      have hBw := Below.drew (Below.refl (wr.alloc (.cells #[.int .u64 (t.1.toNat : Int), .slice ea en ec] 92)).heap.size (wr.alloc (.cells #[.int .u64 (t.1.toNat : Int), .slice ea en ec] 92)))
      clear ht hen hlen hrt hz
      go_wp2
      go_region_held3 (fun w' => w'.cell? ⟨wr.heap.size, 0, none⟩ = some (.int .u64 (t.1.toNat : Int)) ∧ w'.cell? ⟨wr.heap.size, 1, none⟩ = some (.slice ea en ec)) (go_keep)
        (first
          | (go_at_call 188; go_must ((with_reducible refine (HNW.out _).mono ?_); rintro v w5 ⟨rfl, rfl⟩))
          | (go_at_call 117; go_must ((with_reducible refine (HPT.out).mono ?_); rintro v w6 ⟨rfl, hH6, hg6⟩; obtain ⟨q4, q5, q6, q7⟩ := (Blk.grown (w := (wr.alloc (.cells #[.int .u64 (t.1.toNat : Int), .slice ea en ec] 92)).drew) hT hg6 (by simp; omega)).c2)))
      go_wp2
      go_roundw
      case rel => exact ⟨k + 1, by go_num, by omega, by rw [HTK.out]; exact hH6, ((hbr.alloc (by omega) _).trans ((below_drawn _ _ 1))).grown hg6 (by simp; omega) (fun j hj => by cases hj; omega)⟩
      case measure => simp [intOf]; omega
    · obtain rfl : k = n := by omega
      have hneg : (negT A).take k = negT A := List.take_of_length_le (by rw [negT_len, ← HN.out]; exact Nat.le_refl _)
      rw [hneg] at hH
      have hP2 := negT_right HOK.out.right
      obtain ⟨q1, q2, q3⟩ := mk_ok HOK.out.range hP2
      have HA := hide (All_calls wr g va va.toNat (negT A) hH (by rw [negT_len, ← HN.out]; omega) (LenT.of_right (List.all_eq_true.1 hP2)) (rightL_in hP2) (by have := HOK.out.n64; omega) V L E (by rw [← q2, HV.out]) (by rw [← q3, HL.out]) (by rw [← q1, HE.out]))
      clear hP2 q1 q2 q3 hneg
      go_wp2_with (go_at_call 119; go_must ((with_reducible refine (HA.out).mono ?_); rintro v w6 ⟨a6, n6, c6, rfl, hT6, hb6⟩; have hX6 := hXr.belowN hb6; obtain ⟨y0, y1, y2, y3⟩ := hX6.c2))
      have hF6 := (hX6.set_ 0 (.int .i64 V)).set_ 1 (.slice a6 n6 c6)
      refine bodyPost_ret (results_rowP rfl _ _ (w.heap.size + 1) _ #[.int .i64 V, .slice a6 n6 c6] (0, 0) _ rfl hF6 Tryz.underlying42 rfl (by kernel_rfl)) rfl ?_
      exact PolyOut.stored (hBr.trans (hb6.mono hBr.size)) hT6 (by omega) hXr.lt hBr.size
set_option maxRecDepth 100000 in
set_option maxHeartbeats 6400000 in
theorem RNeg3_good (P : Nat → Prop) (va : Int) (a : Option Addr) (n c : Nat) (A : List Tm) (w : World) (h : TOut P w a n c A) (hQ : checkP va A = true) (V : Int) (L : List Tm) (E : Int) (hV : mkV va (negT A) = V) (hL : mkL va (negT A) = L) (hE : mkE va (negT A) = E) :
    Calls Tryz.prog 134 #[.agg #[.int .i64 va, .slice a n c]] w (PolyOut V L E w) := by
  obtain ⟨hX1, hX3, hb0, hz0⟩ := two_boxes w 42 42 #[.int .i64 va, .slice a n c] #[.int .i64 0, .slice none 0 0]
  obtain ⟨W0, hW0⟩ : ∃ W0, (w.alloc (.cells #[.int .i64 va, .slice a n c] 42)).alloc (.cells #[.int .i64 0, .slice none 0 0] 42) = W0 := ⟨_, rfl⟩
  rw [hW0] at hX1 hX3 hb0 hz0
  have hok := checkP_ok hQ
  have hn4 : n ≤ 4096 := by rw [h.len]; exact hok.len
  have HCA := hide (RCheck_calls va a n c A h.len W0 (h.at_.at_.belowN hb0) (by omega) hok.len6 true hQ)
  obtain ⟨p0, p1, p2, p3⟩ := hX1.c2
  have HW0 := hide hW0
  have HN := hide h.len
  have hat := h.at_.belowN hb0
  have h6 : ∀ t ∈ negT A, t.2.length ≤ 1000000 := fun t ht => by
    obtain ⟨s, hs, rfl⟩ := List.mem_map.1 ht
    exact hok.len6 s hs
  have HMK := hide (fun (W : World) (a3 : Option Addr) (c3 : Nat) (R : Nat → Prop) (k : TOut R W a3 n c3 (negT A)) => RMake_calls R va a3 n c3 (negT A) W k (by omega) h6 V L E hV hL hE)
  clear hQ h hW0 hok hV hL hE h6
  go_enter Tryz.func134, Tryz.ntmps134
  go_wp2_with (go_at_call 50; go_must ((rw [HW0.out]); (with_reducible refine (HCA.out).mono ?_); rintro v w1 ⟨rfl, hb1⟩; obtain ⟨r0, r1, r2, r3⟩ := (hX1.belowN hb1).c2))
  have hX5 := hX3.belowN hb1
  have hX6 := hX1.belowN hb1
  have hBz := hb0.trans (hb1.mono hb0.size)
  have hat1 := hat.belowN hb1
  have hO1 := OwnT.nil (P := fun q => q < w1.heap.size) (Own.new w1 (Nat.le_refl _) 92 TmH)
  have hbN := below_box w1 (.cells #[] 92)
  clear HCA
  go_loopw [4, 5] (fun ov iv wr => ∃ (k : Nat) (ao : Option Addr) (co : Nat) (hs : List TmH), iv = .int .i64 k ∧ k ≤ n ∧ ov = .slice ao k co ∧ OwnT (fun q => q < w1.heap.size) wr w1.heap.size ao co hs ((negT A).take k) ∧ Below w1.heap.size w1 wr) (fun _ iv _ => n - (intOf iv).toNat)
  case atStart => exact ⟨0, _, _, [], rfl, by omega, rfl, hO1, hbN⟩
  case round =>
    obtain ⟨k, ao, co, hs, rfl, hk, rfl, hO, hb⟩ := hrel
    have hzr := hb.size
    have hXr := hX5.belowN hb
    have hXa := hX6.belowN hb
    have hBr := hBz.trans (hb.mono hBz.size)
    obtain ⟨x0, x1, x2, x3⟩ := hXr.c2
    obtain ⟨z0, z1, z2, z3⟩ := hXa.c2
    by_cases hlt : k < n
    · obtain ⟨b1, off1, t, ea, en, ec, rfl, ht, t0, t1, hrow, hfar⟩ := hat1.getF hb (k := k) (by rw [← HN.out]; exact hlt)
      have hk0 : (0 : Int) ≤ (k : Int) := by omega
      have hk1 : (k : Int) < (n : Int) := by omega
      obtain ⟨z, hz⟩ : ∃ z, 0 - t.1 = z := ⟨_, rfl⟩
      have HNW := hide (fun W => Neg_calls t.1 W)
      have HTK := hide (negT_take ht.out)
      rw [hz] at HNW HTK
      have HHL : Hid (k = hs.length) := by show _ = _; rw [hO.len, List.length_take, negT_len, ← HN.out]; omega
      have hBw := Below.drew (Below.refl wr.heap.size wr)
      have hblt : b1 < w1.heap.size := hat1.lt (by rw [← HN.out]; omega)
      have HC6 := hide (fun (W : World) (k9 : Below w1.heap.size w1 W) (o9 : Nat) => show W.cell? ⟨b1, o9, none⟩ = wr.cell? ⟨b1, o9, none⟩ from ((bcell k9).1 b1 o9 hblt).trans ((bcell hb).1 b1 o9 hblt).symm)
      have HO := hide hO
      have HXA := hide hXa
      clear ht hz hO hXa
      go_wp2
      go_region_held3 (fun w' => w'.cell? ⟨w.heap.size, 1, none⟩ = some (.slice (some ⟨b1, off1, none⟩) n c) ∧ w'.cell? ⟨b1, off1 + k * 2, none⟩ = some (.int .u64 (t.1.toNat : Int)) ∧ w'.cell? ⟨b1, off1 + k * 2 + 1, none⟩ = some (.slice ea en ec)) (go_keep)
        (first
          | (go_at_call 164; go_must ((with_reducible refine (HNW.out _).mono ?_); rintro v w5 ⟨rfl, hb5⟩; have hB5 := hBw.trans (hb5.mono hBw.size); have y0 := cell_later hB5 t0; have y1 := cell_later hB5 t1; obtain ⟨v0, v1, v2, v3⟩ := (HXA.out.belowN hB5).c2; have hz5 := hB5.size; have hO5 := HO.out.belowN hB5))
          | (refine step_pushAll tyT (hO5.out.alloc _) (l2 := [(⟨z, ea, en, ec⟩ : TmH)]) (At.ofBlk (Blk.new w5 _ #[.int .u64 (z.toNat : Int), .slice ea en ec]) _ rfl) rfl rfl rfl rfl HHL.out rfl (by simp; omega) (by omega) (by decide) ?_; intro a6 c6 w6 hown6 hg6 hcs6; have hbx9 := below_box w5 (.cells #[.int .u64 (z.toNat : Int), .slice ea en ec] 92); have hb9 := (hb.trans (hB5.mono hzr)).trans (hbx9.mono (by omega)); have hB6 := below_push hb9 (hO5.out.alloc _) hg6 (by simp; omega); have y2 := (HC6.out _ hB6 _).trans t0; have y3 := (HC6.out _ hB6 _).trans t1; obtain ⟨v4, v5, v6, v7⟩ := (hX6.belowN hB6).c2))
      have hrow9 : TmH.of (w5.alloc (.cells #[.int .u64 (z.toNat : Int), .slice ea en ec] 92)) ⟨z, ea, en, ec⟩ (z, t.2) := ⟨rfl, hrow.out.2.1, hrow.out.2.2.1, hrow.out.2.2.2.1, (hrow.out.2.2.2.2.belowN hB5).belowN (below_box _ _)⟩
      have hOT := (hO5.belowN (below_box w5 (.cells #[.int .u64 (z.toNat : Int), .slice ea en ec] 92))).push hown6 hg6 hcs6 (y := ⟨z, ea, en, ec⟩) (t := (z, t.2)) hrow9 (fun hne => by
        obtain ⟨q, e1, e3, e4⟩ := hfar.out hne
        refine ⟨fun e => ?_, fun q' e' => ?_⟩
        · have := (HO.out.out.blk q (by rw [← e]; exact e1)).1
          omega
        · have : q = q' := Option.some.inj (e1.symm.trans e')
          omega)
      rw [← HTK.out] at hOT
      go_wp2
      go_roundw
      case rel => exact ⟨k + 1, a6, c6, _, by go_num, by omega, rfl, hOT, hB6⟩
      case measure => simp [intOf]; omega
    · obtain rfl : k = n := by omega
      have hneg : (negT A).take k = negT A := List.take_of_length_le (by rw [negT_len, ← HN.out]; exact Nat.le_refl _)
      rw [hneg] at hO
      have hT := hO.out_ (n := k) (by rw [negT_len]; exact HN.out)
      have HMK2 := hide (HMK.out wr ao co _ hT)
      clear hneg
      go_wp2_with (go_at_call 91; go_must ((with_reducible refine (HMK2.out).mono ?_); rintro v w6 ⟨a6, n6, c6, rfl, hT6, hb6⟩; have hX9 := hXr.belowN hb6; obtain ⟨y0, y1, y2, y3⟩ := hX9.c2))
      have hF6 := (hX9.set_ 0 (.int .i64 V)).set_ 1 (.slice a6 n6 c6)
      refine bodyPost_ret (results_rowP rfl _ _ (w.heap.size + 1) _ #[.int .i64 V, .slice a6 n6 c6] (0, 0) _ rfl hF6 Tryz.underlying42 rfl (by kernel_rfl)) rfl ?_
      exact PolyOut.stored (hBr.trans (hb6.mono hBr.size)) hT6 (by omega) hXr.lt hBr.size
end Go.Proofs.YtcamcnahkdiefaaGreat

/- Derivatives of both sides. -/
namespace Go.Proofs.YtcamcnahkdiefaaGreat
set_option linter.unusedVariables false
set_option linter.unusedSimpArgs false
open Go.RowKit
end Go.Proofs.YtcamcnahkdiefaaGreat

/- Products: poly.Mul. -/
namespace Go.Proofs.YtcamcnahkdiefaaGreat
set_option linter.unusedVariables false
set_option linter.unusedSimpArgs false
open Go.RowKit
def mul1 (s t : Tm) : Tm := (s.1 * t.1, List.zipWith (· + ·) s.2 t.2)
def mulT (A B : List Tm) : List Tm := A.flatMap fun s => B.map (mul1 s)
theorem mulT_take {A B : List Tm} {k : Nat} {s : Tm} (h : A[k]? = some s) : mulT (A.take (k + 1)) B = mulT (A.take k) B ++ B.map (mul1 s) := by
  unfold mulT
  rw [List.take_add_one, h, List.flatMap_append]; simp
theorem mulT_drop {A B : List Tm} {k : Nat} {s : Tm} (h : A[k]? = some s) : mulT (A.drop k) B = B.map (mul1 s) ++ mulT (A.drop (k + 1)) B := by
  rw [drop_at h]; rfl
theorem map_take1 {B : List Tm} {s t : Tm} {i : Nat} (h : B[i]? = some t) : (B.take (i + 1)).map (mul1 s) = (B.take i).map (mul1 s) ++ [mul1 s t] := by
  rw [List.take_add_one, h, List.map_append]; rfl
theorem map_drop1 {B : List Tm} {s t : Tm} {i : Nat} (h : B[i]? = some t) : (B.drop i).map (mul1 s) = mul1 s t :: (B.drop (i + 1)).map (mul1 s) := by
  rw [drop_at h]; rfl
theorem mulT_len (A B : List Tm) : (mulT A B).length = A.length * B.length := by
  unfold mulT
  induction A with
  | nil => simp
  | cons s A ih => rw [List.flatMap_cons, List.length_append, ih, List.length_map, List.length_cons, Nat.succ_mul]; omega
def mulE (va : Int) (A B : List Tm) : Int := if rightL va (mulT A B) = true then mkE va (mulT A B) else 20
def mulV (va : Int) (A B : List Tm) : Int := if rightL va (mulT A B) = true then mkV va (mulT A B) else 0
def mulL (va : Int) (A B : List Tm) : List Tm := if rightL va (mulT A B) = true then mkL va (mulT A B) else []
theorem rightL_cons (vars : Int) (t : Tm) (l : List Tm) : rightL vars (t :: l) = (rightT vars t.2 && rightL vars l) := rfl
theorem rightL_snoc {vars : Int} {l : List Tm} {t : Tm} (h : rightL vars l = true) (ht : rightT vars t.2 = true) : rightL vars (l ++ [t]) = true := rightL_app h (by rw [rightL_cons, ht]; rfl)
theorem zip_len {a b : List Int} {n : Nat} (h1 : a.length = n) (h2 : b.length = n) : (List.zipWith (· + ·) a b).length = n := by rw [List.length_zipWith]; omega
theorem zip_at {a b : List Int} {i : Nat} {x y : Int} (h1 : a[i]? = some x) (h2 : b[i]? = some y) : (List.zipWith (· + ·) a b)[i]? = some (x + y) := by
  rw [List.getElem?_zipWith, h1, h2]
theorem take_set_next {l m : List Int} {i : Nat} {x : Int} (h : l.take i = m.take i) (hi : i < l.length) (hx : m[i]? = some x) : (l.set i x).take (i + 1) = m.take (i + 1) := by
  rw [List.take_add_one, List.take_add_one, hx, List.take_set_of_le (Nat.le_refl _), h, List.getElem?_set_self hi]
theorem AtTP.getB {P : Nat → Prop} {w wr : World} {a : Option Addr} {ts : List Tm} (h : AtTP P w a ts) (hb : Below w.heap.size w wr) {k : Nat} (hk : k < ts.length) :
    ∃ (b off : Nat) (t : Tm) (ea : Option Addr) (en ec : Nat), a = some ⟨b, off, none⟩ ∧ Hid (ts[k]? = some t) ∧ wr.cell? ⟨b, off + k * 2, none⟩ = some (.int .u64 (t.1.toNat : Int)) ∧ wr.cell? ⟨b, off + k * 2 + 1, none⟩ = some (.slice ea en ec) ∧ Hid (TmH.of w ⟨t.1, ea, en, ec⟩ t) := by
  obtain ⟨hs, h1, h2, h3, _, h5⟩ := h
  obtain ⟨b, off, y, e, hy, hc⟩ := h1.get (k := k) (by omega)
  have ht : ts[k]? = some ts[k] := List.getElem?_eq_getElem hk
  have hq := h3 k y _ hy.out ht
  have c0 := hc 0 _ rfl
  have c1 := hc 1 _ rfl
  refine ⟨b, off, ts[k], y.a, y.n, y.k, e, hide ht, cell_later hb ?_, cell_later hb ?_, hide ?_⟩
  · rw [← hq.1]; simpa [Flat.n] using c0
  · simpa [Flat.n] using c1
  · exact ⟨rfl, hq.2⟩
set_option maxRecDepth 100000 in
set_option maxHeartbeats 12800000 in
theorem PMul_good (P Q : Nat → Prop) (va : Int) (a b : Option Addr) (n c m d : Nat) (A B : List Tm) (w : World) (h : TOut P w a n c A) (h' : TOut Q w b m d B) (hQA : checkP va A = true) (hQB : checkP va B = true) (V : Int) (L : List Tm) (E : Int) (hV : mulV va A B = V) (hL : mulL va A B = L) (hE : mulE va A B = E) :
    Calls Tryz.prog 162 #[.agg #[.int .i64 va, .slice a n c], .agg #[.int .i64 va, .slice b m d]] w (PolyOut V L E w) := by
  obtain ⟨hX1, hX2, hX3, hb0, hz0⟩ := three_boxes w 42 42 42 #[.int .i64 va, .slice a n c] #[.int .i64 va, .slice b m d] #[.int .i64 0, .slice none 0 0]
  obtain ⟨W0, hW0⟩ : ∃ W0, ((w.alloc (.cells #[.int .i64 va, .slice a n c] 42)).alloc (.cells #[.int .i64 va, .slice b m d] 42)).alloc (.cells #[.int .i64 0, .slice none 0 0] 42) = W0 := ⟨_, rfl⟩
  rw [hW0] at hX1 hX2 hX3 hb0 hz0
  have hokA := checkP_ok hQA
  have hokB := checkP_ok hQB
  have hn4 : n ≤ 4096 := by rw [h.len]; exact hokA.len
  have hm4 : m ≤ 4096 := by rw [h'.len]; exact hokB.len
  have HCA := hide (Check_calls va a n c A h.len W0 (h.at_.at_.belowN hb0) (by omega) hokA.len6 true hQA)
  have HCB := hide (fun (W : World) (k : Below W0.heap.size W0 W) => Check_calls va b m d B h'.len W ((h'.at_.at_.belowN hb0).belowN k) (by omega) hokB.len6 true hQB)
  obtain ⟨p0, p1, p2, p3⟩ := hX1.c2
  obtain ⟨q0, q1, q2, q3⟩ := hX2.c2
  have HW0 := hide hW0
  have e1 : (va != va) = false := by simp
  have e2 : (va == va) = true := by simp
  have hatA := h.at_.belowN hb0
  have hatB := h'.at_.belowN hb0
  have HN := hide h.len
  have HM := hide h'.len
  have HOA := hide hokA
  have HOB := hide hokB
  have HV := hide hV
  have HL := hide hL
  have HE := hide hE
  obtain ⟨vn, hvn⟩ : ∃ vn : Nat, va = vn := ⟨va.toNat, by have := hokA.v; omega⟩
  have hv64 : vn ≤ 64 := by have := hokA.n64; omega
  subst hvn
  have HH := hide (fun W => Heap_calls vn (vn : Int) W)
  obtain ⟨R, hR⟩ : ∃ R, rightL (vn : Int) (mulT A B) = R := ⟨_, rfl⟩
  have HR := hide hR
  have HR0 : Hid (rightL (vn : Int) (mulT (A.drop 0) B) = R) := hR
  have HP0 : Hid (rightL (vn : Int) (mulT (A.take 0) B) = true) := rfl
  clear hQA hQB h h' hW0 hokA hokB hV hL hE hR
  go_enter Tryz.func162, Tryz.ntmps162
  go_wp2_with (first
    | (have hgd := hb1; go_at_call 49; go_must ((with_reducible refine (HCB.out _ hb1).mono ?_); rintro v w2 ⟨rfl, hb2⟩; have hB2 := hb1.trans (hb2.mono hb1.size); have hX5 := hX3.belowN hB2; obtain ⟨r0, r1, r2, r3⟩ := (hX1.belowN hB2).c2; obtain ⟨s0, s1, s2, s3⟩ := (hX2.belowN hB2).c2))
    | (go_at_call 49; go_must ((rw [HW0.out]); (with_reducible refine (HCA.out).mono ?_); rintro v w1 ⟨rfl, hb1⟩; obtain ⟨s0, s1, s2, s3⟩ := (hX2.belowN hb1).c2))
    | (go_at_call 73; go_must ((with_reducible refine (HH.out _).mono ?_); rintro v w3 ⟨rfl, hH3, hb3⟩; have hB3 := hB2.trans (hb3.mono hB2.size); obtain ⟨t0, t1, t2, t3⟩ := (hX1.belowN hB3).c2))
    | (at_make; go_must (refine wpList_mk tyI03 (B := w3.heap.size) (n := vn) rfl rfl rfl rfl rfl rfl (Nat.le_refl _) (by omega) ?_; intro w4 hown4 hg4; have hb4 := below_of_grown hg4; have hB4 := hB3.trans (hb4.mono hB3.size); obtain ⟨u0, u1, u2, u3⟩ := (hX1.belowN hB4).c2)))
  obtain ⟨g, hg⟩ : ∃ g, g = w2.heap.size := ⟨_, rfl⟩
  obtain ⟨ge, hge⟩ : ∃ ge, ge = w3.heap.size := ⟨_, rfl⟩
  rw [← hg] at hH3 ⊢
  rw [← hge] at hown4 ⊢
  have hgge : g + 2 < ge := by rw [hge]; exact hH3.lt
  have hH4 := hH3.belowN hb4
  have hb24 : Below g w2 w4 := by rw [hg]; exact hb3.trans (hb4.mono hb3.size)
  have hgw : w.heap.size + 1 + 1 < g := by rw [hg]; exact hX5.lt
  have hBz := hb0.trans (hB2.mono hb0.size)
  have hA2 := hatA.belowN hB2
  have hBB2 := hatB.belowN hB2
  have hY1 := hX1.belowN hB2
  have hY2 := hX2.belowN hB2
  have hge4 : ge < w4.heap.size := by have := hown4.blk ge rfl; omega
  have HG := hide hg
  clear hg hge hB4 hB3 hb3 hb4 hg4 hH3 HH HCA HCB hatA hatB hX1 hX2 hX3 hgd
  go_loopw [42] (fun iv wr => ∃ (k : Nat) (l : List Int), iv = .int .i64 k ∧ k ≤ n ∧ Hid (rightL (vn : Int) (mulT (A.drop k) B) = R) ∧ Hid (rightL (vn : Int) (mulT (A.take k) B) = true) ∧ HeapT wr g (vn : Int) vn (mulT (A.take k) B) ∧ l.length = vn ∧ Own wr ge 3 (some ⟨ge, 0, none⟩) vn l ∧ Below g w2 wr) (fun iv _ => n - (intOf iv).toNat)
  case atStart => exact ⟨0, _, rfl, by omega, HR0.out, HP0.out, hH4, by simp, hown4, hb24⟩
  case round =>
    obtain ⟨k, l, rfl, hk, hRk, hPk, hH, hll, hown, hbr⟩ := hrel
    have hbX : Below w2.heap.size w2 wr := hbr.mono (by rw [HG.out]; exact Nat.le_refl _)
    have hzr := hH.lt
    have hger := (hown.blk ge rfl).2
    have hXr := hX5.belowN hbX
    have hBr := hBz.trans (hbX.mono hBz.size)
    obtain ⟨x0, x1, x2, x3⟩ := hXr.c2
    by_cases hlt : k < n
    · obtain ⟨b1, off1, t, ea, en, ec, rfl, ht, t0, t1, hrow⟩ := hA2.getB hbX (k := k) (by rw [← HN.out]; exact hlt)
      have hk0 : (0 : Int) ≤ (k : Int) := by omega
      have hk1 : (k : Int) < (n : Int) := by omega
      have hen : en = t.2.length := hrow.out.2.1
      have hrt := HOA.out.rt t (List.mem_of_getElem? ht.out)
      have hlen := rightT_len hrt
      have henv : en = vn := by omega
      have hin := rightT_in hrt
      have HIN := hide hin
      subst henv
      have hRk2 := hRk.out
      rw [mulT_drop ht.out] at hRk2
      have HRK2 : Hid (rightL (en : Int) ((B.drop 0).map (mul1 t) ++ mulT (A.drop (k + 1)) B) = R) := hRk2
      have HTA := hide (mulT_take (B := B) ht.out)
      have hPs : Hid (rightL (en : Int) (mulT (A.take k) B ++ (B.take 0).map (mul1 t)) = true) := by
        show _ = _
        rw [List.take_zero, List.map_nil, List.append_nil]; exact hPk.out
      have hbx := below_box wr (.cells #[.int .u64 (t.1.toNat : Int), .slice ea en ec] 92)
      have hT := Blk.new wr 92 #[.int .u64 (t.1.toNat : Int), .slice ea en ec]
      have hHs : HeapT (wr.alloc (.cells #[.int .u64 (t.1.toNat : Int), .slice ea en ec] 92)) g (en : Int) en (mulT (A.take k) B ++ (B.take 0).map (mul1 t)) := by
        rw [List.take_zero, List.map_nil, List.append_nil]; exact hH.belowN hbx
      obtain ⟨bs, hbs⟩ : ∃ bs, bs = wr.heap.size := ⟨_, rfl⟩
      have hgebs : ge < bs := by rw [hbs]; exact hger
      have hbxg : Below g w2 (wr.alloc (.cells #[.int .u64 (t.1.toNat : Int), .slice ea en ec] 92)) := hbr.alloc (by omega) _
      obtain ⟨s4, s5, s6, s7⟩ := ((hY2.belowN hbX).belowN hbx).c2
      have HLA := hide (show (mulT (A.take k) B).length + m ≤ 16777216 by
        rw [mulT_len, List.length_take, ← HN.out, ← HM.out, Nat.min_eq_left (by omega)]
        have : (k + 1) * m ≤ 4096 * 4096 := Nat.mul_le_mul (by omega) hm4
        rw [Nat.succ_mul] at this
        omega)
      have hea := hrow.out.2.2.2.2
      have HT := hide hT
      obtain ⟨wo, rfl⟩ : ∃ wo : World, wo = wr := ⟨_, rfl⟩
      clear ht hen hlen hrt hRk2 hin hH hT
      go_wp2
      rw [← hbs]
      have hT1 : Blk (wo.alloc (.cells #[.int .u64 (t.1.toNat : Int), .slice ea en ec] 92)) bs 92 #[.int .u64 (t.1.toNat : Int), .slice ea en ec] := by rw [hbs]; exact HT.out
      have HBS := hide hbs
      have hown1 := hown.alloc (.cells #[.int .u64 (t.1.toNat : Int), .slice ea en ec] 92)
      clear hbs HT
      go_loopw [49] (fun jv wi => ∃ (i : Nat) (l : List Int), jv = .int .i64 i ∧ i ≤ m ∧ Hid (rightL (en : Int) ((B.drop i).map (mul1 t) ++ mulT (A.drop (k + 1)) B) = R) ∧ Hid (rightL (en : Int) (mulT (A.take k) B ++ (B.take i).map (mul1 t)) = true) ∧ HeapT wi g (en : Int) en (mulT (A.take k) B ++ (B.take i).map (mul1 t)) ∧ l.length = en ∧ Own wi ge 3 (some ⟨ge, 0, none⟩) en l ∧ Blk wi bs 92 #[.int .u64 (t.1.toNat : Int), .slice ea en ec] ∧ Below g w2 wi) (fun jv _ => m - (intOf jv).toNat)
      case atStart => exact ⟨0, l, rfl, by omega, HRK2.out, hPs.out, hHs, hll, hown1, hT1, hbxg⟩
      case round =>
        obtain ⟨i, l, rfl, hi, hRi, hPi, hH, hll, hown, hT, hbr⟩ := hrel
        have hbX : Below w2.heap.size w2 wr := hbr.mono (by rw [HG.out]; exact Nat.le_refl _)
        have hzr := hH.lt
        have hbsr := hT.lt
        obtain ⟨c0, c1, c2, c3⟩ := hT.c2
        by_cases hlt : i < m
        · obtain ⟨b2, off2, s, fa, fn, fc, rfl, hs, s0, s1, hrowS⟩ := hBB2.getB hbX (k := i) (by rw [← HM.out]; exact hlt)
          have hi0 : (0 : Int) ≤ (i : Int) := by omega
          have hi1 : (i : Int) < (m : Int) := by omega
          have hfn : fn = s.2.length := hrowS.out.2.1
          have hrts := HOB.out.rt s (List.mem_of_getElem? hs.out)
          have hlens := rightT_len hrts
          have hfnv : fn = en := by omega
          have HINS := hide (rightT_in hrts)
          subst hfnv
          have hRi2 := hRi.out
          rw [map_drop1 hs.out, List.cons_append, rightL_cons] at hRi2
          have HBT := hide (map_take1 (s := t) hs.out)
          obtain ⟨bt, hbt⟩ : ∃ bt, bt = wr.heap.size := ⟨_, rfl⟩
          have hbx := below_box wr (.cells #[.int .u64 (s.1.toNat : Int), .slice fa fn fc] 92)
          have hSB := Blk.new wr 92 #[.int .u64 (s.1.toNat : Int), .slice fa fn fc]
          rw [← hbt] at hSB
          have hbsbt : bs < bt := by rw [hbt]; exact hbsr
          have hHs := hH.belowN hbx
          have hTs := hT.belowN hbx
          have hown1 := hown.belowN hbx
          have hbxg : Below g w2 (wr.alloc (.cells #[.int .u64 (s.1.toNat : Int), .slice fa fn fc] 92)) := hbr.alloc (by omega) _
          have hfa := hrowS.out.2.2.2.2
          obtain ⟨Z, hZ⟩ : ∃ Z, List.zipWith (· + ·) t.2 s.2 = Z := ⟨_, rfl⟩
          have hea6 : t.2.length = fn := by have := hrow.out.2.1; exact this.symm
          have hZl : Z.length = fn := by rw [← hZ]; exact zip_len hea6 hfn.symm
          have HZ := hide hZ
          have HZL := hide hZl
          have HS := hide hs.out
          have HFN := hide hfn
          have HEA6 := hide hea6
          have HBTE := hide hbt
          obtain ⟨wi, rfl⟩ : ∃ wi : World, wi = wr := ⟨_, rfl⟩
          clear hs hfn hlens hrts hH hT hZ hZl hea6
          go_wp2
          rw [← hbt]
          clear hbt
          go_loopw [55] (fun pv wp => ∃ (p : Nat) (l : List Int), pv = .int .i64 p ∧ p ≤ fn ∧ Hid (l.take p = Z.take p) ∧ HeapT wp g (fn : Int) fn (mulT (A.take k) B ++ (B.take i).map (mul1 t)) ∧ l.length = fn ∧ Own wp ge 3 (some ⟨ge, 0, none⟩) fn l ∧ Blk wp bs 92 #[.int .u64 (t.1.toNat : Int), .slice ea fn ec] ∧ Blk wp bt 92 #[.int .u64 (s.1.toNat : Int), .slice fa fn fc] ∧ Below g w2 wp) (fun pv _ => fn - (intOf pv).toNat)
          case atStart => exact ⟨0, l, rfl, by omega, rfl, hHs, hll, hown1, hTs, hSB, hbxg⟩
          case round =>
            obtain ⟨p, l, rfl, hp, hpl, hH, hll, hown, hT, hSB, hbr⟩ := hrel
            have hbX : Below w2.heap.size w2 wr := hbr.mono (by rw [HG.out]; exact Nat.le_refl _)
            have hzr := hH.lt
            obtain ⟨c0, c1, c2, c3⟩ := hT.c2
            obtain ⟨d0, d1, d2, d3⟩ := hSB.c2
            by_cases hlt : p < fn
            · obtain ⟨b3, off3, x, rfl, hx, y0⟩ := hea.getI hbX (k := p) (by rw [HEA6.out]; exact hlt)
              obtain ⟨b4, off4, y, rfl, hy, y1⟩ := hfa.getI hbX (k := p) (by rw [← HFN.out]; exact hlt)
              have hp0 : (0 : Int) ≤ (p : Int) := by omega
              have hp1 : (p : Int) < (fn : Int) := by omega
              have hxr := HIN.out x (List.mem_of_getElem? hx.out)
              have hyr := HINS.out y (List.mem_of_getElem? hy.out)
              have hZp : Z[p]? = some (x + y) := by rw [← HZ.out]; exact zip_at hx.out hy.out
              have hfz := hown.frozen p
              obtain ⟨z, zu, hz1, hz2, hz3⟩ := hown.cell1 (i := p) (by omega) rfl
              have hzu : zu = .int .i64 z := by simpa [Flat.enc] using hz2.symm
              subst hzu
              have hown2 := (hown.drew).set1 p (x + y) (.int .i64 (x + y)) rfl
              have HT2 := hide (take_set_next hpl.out (by omega) hZp)
              clear hx hy hz1 hz2 hZp
              go_wp2
              go_region
              go_wp2
              go_roundw
              case rel => exact ⟨p + 1, _, by go_num, by omega, HT2.out, (hH.belowN (below_drawn _ _ 1)).grown (grown_setCell _ ge p _) (fun j hj => by cases hj; omega), by simpa using hll, hown2, (hT.drewN 1).far (p := ⟨ge, p, none⟩) (by simp; omega) _, (hSB.drewN 1).far (p := ⟨ge, p, none⟩) (by simp; omega) _, (hbr.trans (below_drawn _ _ 1)).setCell (p := ⟨ge, p, none⟩) (by show g ≤ ge; omega) _⟩
              case measure => simp [intOf]; omega
            · obtain rfl : p = fn := by omega
              have hlZ : l = Z := by
                have := hpl.out
                rw [List.take_of_length_le (by omega), List.take_of_length_le (by rw [HZL.out]; exact Nat.le_refl _)] at this
                exact this
              subst hlZ
              obtain ⟨v0, v1, v2, v3⟩ := (hY1.belowN hbX).c2
              have hXr := hX5.belowN hbX
              obtain ⟨x0, x1, x2, x3⟩ := hXr.c2
              have hBr := hBz.trans (hbX.mono hBz.size)
              obtain ⟨R1, hR1⟩ : ∃ R1, rightT (p : Int) l = R1 := ⟨_, rfl⟩
              have HRC := hide (PRight_calls (p : Int) (some ⟨ge, 0, none⟩) p p l hll.symm wr hown.at_ (by omega) R1 hR1)
              have hmt : (mul1 t s).2 = l := HZ.out
              rw [hmt, hR1] at hRi2
              cases R1 with
              | false =>
                have hQF : R = false := by rw [← hRi2]; rfl
                have hV := HV.out
                have hL := HL.out
                have hE := HE.out
                unfold mulV at hV
                unfold mulL at hL
                unfold mulE at hE
                rw [HR.out, hQF] at hV hL hE
                rw [if_neg (by decide)] at hV hL hE
                subst hV hL hE
                clear hRi2 hR1 hmt hpl hQF
                go_wp2_with (go_at_call 99; go_must ((with_reducible refine (HRC.out).mono ?_); rintro v w5 ⟨rfl, rfl⟩))
                have hF6 := (hXr.set_ 0 (.int .i64 0)).set_ 1 (.slice none 0 0)
                refine bodyPost_ret (results_rowP rfl _ _ (w.heap.size + 1 + 1) _ #[.int .i64 0, .slice none 0 0] (0, 0) _ rfl hF6 Tryz.underlying42 rfl (by kernel_rfl)) rfl ?_
                exact PolyOut.bad _ _ _ ((hBr.setCell (p := ⟨w.heap.size + 1 + 1, 0, none⟩) (by show _ ≤ w.heap.size + 1 + 1; omega) (.int .i64 0)).setCell (p := ⟨w.heap.size + 1 + 1, 1, none⟩) (by show _ ≤ w.heap.size + 1 + 1; omega) (.slice none 0 0))
              | true =>
                rw [Bool.true_and] at hRi2
                have HRi2 := hide hRi2
                have HPi2 := hide (rightL_snoc (t := mul1 t s) hPi.out (by rw [hmt]; exact hR1))
                have HLB := hide (show (mulT (A.take k) B ++ (B.take i).map (mul1 t)).length ≤ 16777216 by
                  have h1 := HLA.out
                  rw [List.length_append, List.length_map, List.length_take, ← HM.out, Nat.min_eq_left (by omega)]
                  omega)
                have HPT := hide (Put_calls wr g (p : Int) p _ hH (by have := HLB.out; omega) (mul1 t s) (some ⟨ge, 0, none⟩) p p (by rw [hmt, hll]) (by rw [hmt]; exact hll) (by omega) (by rw [hmt]; exact rightT_in hR1) (by rw [hmt]; exact hown.at_))
                have HMU := hide (show IntKind.u64.wrap ((t.1.toNat : Int) * (s.1.toNat : Int)) = ((mul1 t s).1.toNat : Int) from u64_mul t.1 s.1)
                clear hRi2 hR1 hmt hpl
                go_wp2_with (first
                  | (go_at_call 99; go_must ((with_reducible refine (HRC.out).mono ?_); rintro v w5 ⟨rfl, rfl⟩))
                  | (go_at_call 117; go_must ((rw [HMU.out]); (with_reducible refine (HPT.out).mono ?_); rintro v w6 ⟨rfl, hH6, hg6⟩)))
                go_roundw
                case rel =>
                  refine ⟨i + 1, l, by go_num, by omega, HRi2.out, by rw [HBT.out, ← List.append_assoc]; exact HPi2.out, by rw [HBT.out, ← List.append_assoc]; exact hH6, hll, hown.grown hg6 (.inr (by simp; omega)), hT.grown hg6 (by simp; omega), hbr.grown hg6 (by omega) (fun j hj => by cases hj; omega)⟩
                case measure => simp [intOf]; omega
        · obtain rfl : i = m := by omega
          have hRi2 := hRi.out
          have hPi2 := hPi.out
          rw [List.drop_eq_nil_of_le (by rw [← HM.out]; exact Nat.le_refl _), List.map_nil, List.nil_append] at hRi2
          rw [show B.take i = B from List.take_of_length_le (by rw [← HM.out]; exact Nat.le_refl _)] at hPi2 hH
          rw [← HTA.out] at hPi2 hH
          have HRi2 := hide hRi2
          have HPi2 := hide hPi2
          clear hRi2 hPi2
          go_wp2
          go_roundw
          case rel => exact ⟨k + 1, l, by go_num, by omega, HRi2.out, HPi2.out, hH, hll, hown, hbr⟩
          case measure => simp [intOf]; omega
    · obtain rfl : k = n := by omega
      have hP2 := hPk.out
      have htk : A.take k = A := List.take_of_length_le (by rw [← HN.out]; exact Nat.le_refl _)
      rw [htk] at hP2 hH
      obtain ⟨q1, q2, q3⟩ := mk_ok HOA.out.range hP2
      have hV := HV.out
      have hL := HL.out
      have hE := HE.out
      unfold mulV at hV
      unfold mulL at hL
      unfold mulE at hE
      rw [if_pos hP2] at hV hL hE
      have hml : (mulT A B).length ≤ 16777216 := by
        rw [mulT_len, ← HN.out, ← HM.out]
        exact Nat.mul_le_mul hn4 hm4
      have hlt2 := LenT.of_right (List.all_eq_true.1 hP2)
      rw [Int.toNat_natCast] at hlt2
      have HA := hide (All_calls wr g (vn : Int) vn (mulT A B) hH (by omega) hlt2 (rightL_in hP2) (by omega) V L E (by rw [← q2, hV]) (by rw [← q3, hL]) (by rw [← q1, hE]))
      clear hP2 q1 q2 q3 htk hV hL hE hml hlt2
      go_wp2_with (go_at_call 119; go_must ((with_reducible refine (HA.out).mono ?_); rintro v w6 ⟨a6, n6, c6, rfl, hT6, hb6⟩; have hX6 := hXr.belowN hb6; obtain ⟨y0, y1, y2, y3⟩ := hX6.c2))
      have hF6 := (hX6.set_ 0 (.int .i64 V)).set_ 1 (.slice a6 n6 c6)
      refine bodyPost_ret (results_rowP rfl _ _ (w.heap.size + 1 + 1) _ #[.int .i64 V, .slice a6 n6 c6] (0, 0) _ rfl hF6 Tryz.underlying42 rfl (by kernel_rfl)) rfl ?_
      exact PolyOut.stored (hBr.trans (hb6.mono hBr.size)) hT6 (by omega) hXr.lt hBr.size
end Go.Proofs.YtcamcnahkdiefaaGreat

/- Products: the document's. -/
namespace Go.Proofs.YtcamcnahkdiefaaGreat
set_option linter.unusedVariables false
set_option linter.unusedSimpArgs false
open Go.RowKit
set_option maxRecDepth 100000 in
set_option maxHeartbeats 12800000 in
theorem RMul3_good (P Q : Nat → Prop) (va : Int) (a b : Option Addr) (n c m d : Nat) (A B : List Tm) (w : World) (h : TOut P w a n c A) (h' : TOut Q w b m d B) (hQA : checkP va A = true) (hQB : checkP va B = true) (V : Int) (L : List Tm) (E : Int) (hV : mulV va A B = V) (hL : mulL va A B = L) (hE : mulE va A B = E) :
    Calls Tryz.prog 135 #[.agg #[.int .i64 va, .slice a n c], .agg #[.int .i64 va, .slice b m d]] w (PolyOut V L E w) := by
  obtain ⟨hX1, hX2, hX3, hb0, hz0⟩ := three_boxes w 42 42 42 #[.int .i64 va, .slice a n c] #[.int .i64 va, .slice b m d] #[.int .i64 0, .slice none 0 0]
  obtain ⟨W0, hW0⟩ : ∃ W0, ((w.alloc (.cells #[.int .i64 va, .slice a n c] 42)).alloc (.cells #[.int .i64 va, .slice b m d] 42)).alloc (.cells #[.int .i64 0, .slice none 0 0] 42) = W0 := ⟨_, rfl⟩
  rw [hW0] at hX1 hX2 hX3 hb0 hz0
  have hokA := checkP_ok hQA
  have hokB := checkP_ok hQB
  have hn4 : n ≤ 4096 := by rw [h.len]; exact hokA.len
  have hm4 : m ≤ 4096 := by rw [h'.len]; exact hokB.len
  have HCA := hide (RCheck_calls va a n c A h.len W0 (h.at_.at_.belowN hb0) (by omega) hokA.len6 true hQA)
  have HCB := hide (fun (W : World) (k : Below W0.heap.size W0 W) => RCheck_calls va b m d B h'.len W ((h'.at_.at_.belowN hb0).belowN k) (by omega) hokB.len6 true hQB)
  obtain ⟨p0, p1, p2, p3⟩ := hX1.c2
  obtain ⟨q0, q1, q2, q3⟩ := hX2.c2
  have HW0 := hide hW0
  have e1 : (va != va) = false := by simp
  have e2 : (va == va) = true := by simp
  have hatA := h.at_.belowN hb0
  have hatB := h'.at_.belowN hb0
  have HN := hide h.len
  have HM := hide h'.len
  have HOA := hide hokA
  have HOB := hide hokB
  have HV := hide hV
  have HL := hide hL
  have HE := hide hE
  obtain ⟨vn, hvn⟩ : ∃ vn : Nat, va = vn := ⟨va.toNat, by have := hokA.v; omega⟩
  have hv64 : vn ≤ 64 := by have := hokA.n64; omega
  subst hvn
  obtain ⟨R, hR⟩ : ∃ R, rightL (vn : Int) (mulT A B) = R := ⟨_, rfl⟩
  have HR := hide hR
  have HR0 : Hid (rightL (vn : Int) (mulT (A.drop 0) B) = R) := hR
  have HP0 : Hid (rightL (vn : Int) (mulT (A.take 0) B) = true) := rfl
  clear hQA hQB h h' hW0 hokA hokB hV hL hE hR
  go_enter Tryz.func135, Tryz.ntmps135
  go_wp2_with (first
    | (have hgd := hb1; go_at_call 50; ((with_reducible refine (HCB.out _ hb1).mono ?_); rintro v w2 ⟨rfl, hb2⟩; have hB2 := hb1.trans (hb2.mono hb1.size); have hX5 := hX3.belowN hB2; obtain ⟨r0, r1, r2, r3⟩ := (hX1.belowN hB2).c2; obtain ⟨s0, s1, s2, s3⟩ := (hX2.belowN hB2).c2))
    | (go_at_call 50; ((rw [HW0.out]); (with_reducible refine (HCA.out).mono ?_); rintro v w1 ⟨rfl, hb1⟩; obtain ⟨s0, s1, s2, s3⟩ := (hX2.belowN hb1).c2)))
  have hBz := hb0.trans (hB2.mono hb0.size)
  have hA2 := hatA.belowN hB2
  have hBB2 := hatB.belowN hB2
  have hY1 := hX1.belowN hB2
  have hY2 := hX2.belowN hB2
  have hO1 := OwnT.nil (P := fun _ => True) (Own.new w2 (Nat.le_refl _) 92 TmH)
  have hbN := below_box w2 (.cells #[] 92)
  have hzz := hX5.lt
  clear HCA HCB hatA hatB hX1 hX2 hX3 hgd
  go_loopw [6, 7] (fun lv iv wr => ∃ (k o : Nat) (ao : Option Addr) (co : Nat) (hs : List TmH), iv = .int .i64 k ∧ k ≤ n ∧ lv = .slice ao o co ∧ Hid (o = (mulT (A.take k) B).length) ∧ Hid (rightL (vn : Int) (mulT (A.drop k) B) = R) ∧ Hid (rightL (vn : Int) (mulT (A.take k) B) = true) ∧ OwnT (fun _ => True) wr w2.heap.size ao co hs (mulT (A.take k) B) ∧ Below w2.heap.size w2 wr) (fun _ iv _ => n - (intOf iv).toNat)
  case atStart => exact ⟨0, 0, _, _, [], rfl, by omega, rfl, rfl, HR0.out, HP0.out, hO1, hbN⟩
  case round =>
    obtain ⟨k, o, ao, co, hs, rfl, hk, rfl, ho, hRk, hPk, hO, hbX⟩ := hrel
    have hzr := hbX.size
    have hXr := hX5.belowN hbX
    have hBr := hBz.trans (hbX.mono hBz.size)
    obtain ⟨x0, x1, x2, x3⟩ := hXr.c2
    obtain ⟨v0, v1, v2, v3⟩ := (hY1.belowN hbX).c2
    by_cases hlt : k < n
    · obtain ⟨t, ht⟩ : ∃ t, A[k]? = some t := ⟨_, List.getElem?_eq_getElem (by rw [← HN.out]; exact hlt)⟩
      have hk0 : (0 : Int) ≤ (k : Int) := by omega
      have hk1 : (k : Int) < (n : Int) := by omega
      have hrt := HOA.out.rt t (List.mem_of_getElem? ht)
      have hlen := rightT_len hrt
      have HIN := hide (rightT_in hrt)
      have hRk2 := hRk.out
      rw [mulT_drop ht] at hRk2
      have HRK2 : Hid (rightL (vn : Int) ((B.drop 0).map (mul1 t) ++ mulT (A.drop (k + 1)) B) = R) := hRk2
      have HTA := hide (mulT_take (B := B) ht)
      have hPs : Hid (rightL (vn : Int) (mulT (A.take k) B ++ (B.take 0).map (mul1 t)) = true) := by
        show _ = _
        rw [List.take_zero, List.map_nil, List.append_nil]; exact hPk.out
      have hOs : OwnT (fun _ => True) wr w2.heap.size ao co hs (mulT (A.take k) B ++ (B.take 0).map (mul1 t)) := by
        rw [List.take_zero, List.map_nil, List.append_nil]; exact hO
      have hos : Hid (o = (mulT (A.take k) B ++ (B.take 0).map (mul1 t)).length) := by
        show _ = _
        rw [List.take_zero, List.map_nil, List.append_nil]; exact ho.out
      have HLA := hide (show (mulT (A.take k) B).length + m ≤ 16777216 by
        rw [mulT_len, List.length_take, ← HN.out, ← HM.out, Nat.min_eq_left (by omega)]
        have : (k + 1) * m ≤ 4096 * 4096 := Nat.mul_le_mul (by omega) hm4
        rw [Nat.succ_mul] at this
        omega)
      have HT := hide ht
      obtain ⟨wo, rfl⟩ : ∃ wo : World, wo = wr := ⟨_, rfl⟩
      clear ht hlen hrt hRk2 hO
      go_wp2
      go_loopw [6, 8] (fun lv jv wr => ∃ (i o : Nat) (ao : Option Addr) (co : Nat) (hs : List TmH), jv = .int .i64 i ∧ i ≤ m ∧ lv = .slice ao o co ∧ Hid (o = (mulT (A.take k) B ++ (B.take i).map (mul1 t)).length) ∧ Hid (rightL (vn : Int) ((B.drop i).map (mul1 t) ++ mulT (A.drop (k + 1)) B) = R) ∧ Hid (rightL (vn : Int) (mulT (A.take k) B ++ (B.take i).map (mul1 t)) = true) ∧ OwnT (fun _ => True) wr w2.heap.size ao co hs (mulT (A.take k) B ++ (B.take i).map (mul1 t)) ∧ Below w2.heap.size w2 wr) (fun _ jv _ => m - (intOf jv).toNat)
      case atStart => exact ⟨0, o, ao, co, hs, rfl, by omega, rfl, hos.out, HRK2.out, hPs.out, hOs, hbX⟩
      case round =>
        obtain ⟨i, o, ao, co, hs, rfl, hi, rfl, ho, hRi, hPi, hO, hbX⟩ := hrel
        have hzr := hbX.size
        obtain ⟨u0, u1, u2, u3⟩ := (hY2.belowN hbX).c2
        by_cases hlt : i < m
        · obtain ⟨s, hs1⟩ : ∃ s, B[i]? = some s := ⟨_, List.getElem?_eq_getElem (by rw [← HM.out]; exact hlt)⟩
          have hi0 : (0 : Int) ≤ (i : Int) := by omega
          have hi1 : (i : Int) < (m : Int) := by omega
          have hrts := HOB.out.rt s (List.mem_of_getElem? hs1)
          have HINS := hide (rightT_in hrts)
          have hRi2 := hRi.out
          rw [map_drop1 hs1, List.cons_append, rightL_cons] at hRi2
          have HBT := hide (map_take1 (s := t) hs1)
          obtain ⟨Z, hZ⟩ : ∃ Z, List.zipWith (· + ·) t.2 s.2 = Z := ⟨_, rfl⟩
          have htl : t.2.length = vn := by have := rightT_len (HOA.out.rt t (List.mem_of_getElem? HT.out)); omega
          have hsl : s.2.length = vn := by have := rightT_len hrts; omega
          have hZl : Z.length = vn := by rw [← hZ]; exact zip_len htl hsl
          have HZ := hide hZ
          have HZL := hide hZl
          have HS := hide hs1
          have HTL := hide htl
          have HSL := hide hsl
          have HO := hide hO
          have HRi2 := hide hRi2
          have hoN := Own.new wr (Nat.le_refl _) 3 Int
          have hbN2 := below_box wr (.cells #[] 3)
          obtain ⟨wi, rfl⟩ : ∃ wi : World, wi = wr := ⟨_, rfl⟩
          clear hs1 hrts hZ hZl htl hsl hO hRi2
          go_wp2
          go_loopw [9, 10] (fun ev pv wr => ∃ (p : Nat) (ae : Option Addr) (ce : Nat), pv = .int .i64 p ∧ p ≤ vn ∧ ev = .slice ae p ce ∧ Own wr wi.heap.size 3 ae ce (Z.take p) ∧ Below wi.heap.size wi wr) (fun _ pv _ => vn - (intOf pv).toNat)
          case atStart => exact ⟨0, _, _, rfl, by omega, rfl, hoN, hbN2⟩
          case round =>
            obtain ⟨p, ae, ce, rfl, hp, rfl, hown, hbi⟩ := hrel
            have hbX9 := hbX.trans (hbi.mono hzr)
            have hzp := hbX9.size
            have hzi := hbi.size
            obtain ⟨c0, c1, c2, c3⟩ := (hY1.belowN hbX9).c2
            obtain ⟨d0, d1, d2, d3⟩ := (hY2.belowN hbX9).c2
            by_cases hlt : p < vn
            · obtain ⟨b1, off1, t', ea, en, ec, rfl, ht', t0, t1, hrow⟩ := hA2.getB hbX9 (k := k) (by rw [← HN.out]; omega)
              obtain rfl : t' = t := Option.some.inj (ht'.out.symm.trans HT.out)
              obtain ⟨b2, off2, s', fa, fn, fc, rfl, hs', s0, s1, hrowS⟩ := hBB2.getB hbX9 (k := i) (by rw [← HM.out]; omega)
              obtain rfl : s' = s := Option.some.inj (hs'.out.symm.trans HS.out)
              obtain ⟨b3, off3, x, hea3, hx, y0⟩ := hrow.out.2.2.2.2.getI hbX9 (k := p) (by rw [HTL.out]; exact hlt)
              obtain ⟨b4, off4, y, hfa3, hy, y1⟩ := hrowS.out.2.2.2.2.getI hbX9 (k := p) (by rw [HSL.out]; exact hlt)
              have hl1 : b1 < w2.heap.size := hA2.lt (by rw [← HN.out]; omega)
              have hl2 : b2 < w2.heap.size := hBB2.lt (by rw [← HM.out]; omega)
              have hl3 : b3 < w2.heap.size := by
                obtain ⟨b', off', e', h'⟩ := hrow.out.2.2.2.2.lt (by intro e; have := HTL.out; rw [e] at this; simp at this; omega)
                have e9 : (some ⟨b3, off3, none⟩ : Option Addr) = some ⟨b', off', none⟩ := hea3.symm.trans e'
                injection e9 with e9; injection e9 with e9; omega
              have hl4 : b4 < w2.heap.size := by
                obtain ⟨b', off', e', h'⟩ := hrowS.out.2.2.2.2.lt (by intro e; have := HSL.out; rw [e] at this; simp at this; omega)
                have e9 : (some ⟨b4, off4, none⟩ : Option Addr) = some ⟨b', off', none⟩ := hfa3.symm.trans e'
                injection e9 with e9; injection e9 with e9; omega
              have hen : (p : Int) < (en : Int) := by have h1 : en = t'.2.length := hrow.out.2.1; rw [h1, HTL.out]; omega
              have hfn : (p : Int) < (fn : Int) := by have h1 : fn = s'.2.length := hrowS.out.2.1; rw [h1, HSL.out]; omega
              subst hea3 hfa3
              have hp0 : (0 : Int) ≤ (p : Int) := by omega
              have hp1 : (p : Int) < (vn : Int) := by omega
              have hxr := HIN.out x (List.mem_of_getElem? hx.out)
              have hyr := HINS.out y (List.mem_of_getElem? hy.out)
              have hZp : Z[p]? = some (x + y) := by rw [← HZ.out]; exact zip_at hx.out hy.out
              have HZT := hide (show Z.take (p + 1) = Z.take p ++ [x + y] by rw [List.take_add_one, hZp]; rfl)
              have HPL := hide (show p = (Z.take p).length by rw [List.length_take, HZL.out]; omega)
              have HCX := hide (fun (W : World) (k9 : Below w2.heap.size w2 W) (b9 o9 : Nat) (hl9 : b9 < w2.heap.size) => show W.cell? ⟨b9, o9, none⟩ = wr.cell? ⟨b9, o9, none⟩ from ((bcell k9).1 b9 o9 hl9).trans ((bcell hbX9).1 b9 o9 hl9).symm)
              have HL1 := hide hl1
              have HL2 := hide hl2
              have HL3 := hide hl3
              have HL4 := hide hl4
              have hBw := Below.drew (Below.refl wr.heap.size wr)
              have hAXY : At (wr.alloc (.cells #[.int .i64 (x + y)] 3)).drew (some ⟨wr.heap.size, 0, none⟩) [x + y] := At.ofBlk (Blk.new wr 3 #[.int .i64 (x + y)]) _ rfl
              have HZA : Hid (wi.heap.size ≤ (wr.alloc (.cells #[.int .i64 (x + y)] 3)).drew.heap.size) := hide (by show _ ≤ (wr.alloc (.cells #[.int .i64 (x + y)] 3)).heap.size; rw [World.size_alloc]; omega)
              have HP9 : Hid (p ≤ 1000000000) := hide (by omega)
              have hwr : IntKind.i64.wrap (x + y) = x + y := IntWalk.i64_in _ ⟨by omega, by omega⟩
              have HBP := hide (fun (w6 : World) (hg6 : (wr.alloc (.cells #[.int .i64 (x + y)] 3)).drew.grownBy w6 (ae.map (·.block))) => below_push ((hbi.alloc hzi (.cells #[.int .i64 (x + y)] 3)).drew) (hown.alloc (.cells #[.int .i64 (x + y)] 3)).drew hg6 (by simp; omega))
              clear ht' hs' hx hy hZp hl1 hl2 hl3 hl4
              go_wp2
              go_region_held3 (fun w' => w'.cell? ⟨w.heap.size, 1, none⟩ = some (.slice (some ⟨b1, off1, none⟩) n c) ∧ w'.cell? ⟨b1, off1 + k * 2 + 1, none⟩ = some (.slice (some ⟨b3, off3, none⟩) en ec) ∧ w'.cell? ⟨b3, off3 + p, none⟩ = some (.int .i64 x) ∧ w'.cell? ⟨w.heap.size + 1, 1, none⟩ = some (.slice (some ⟨b2, off2, none⟩) m d) ∧ w'.cell? ⟨b2, off2 + i * 2 + 1, none⟩ = some (.slice (some ⟨b4, off4, none⟩) fn fc) ∧ w'.cell? ⟨b4, off4 + p, none⟩ = some (.int .i64 y)) (go_keep)
                ((refine step_pushAll tyI3 (hown.alloc _).drew (l2 := [x + y]) (hAXY) rfl rfl rfl rfl HPL.out rfl HZA.out HP9.out (show 1 ≤ 1000000000 by decide) ?_; intro a6 c6 w6 hown6 hg6 hcs6; have hb6 := HBP.out w6 hg6; have hbX6 := hbX.trans (hb6.mono hzr); obtain ⟨e0, e3, e4, e5⟩ := (hY1.belowN hbX6).c2; obtain ⟨f0, f1, f2, f3⟩ := (hY2.belowN hbX6).c2; have g0 := (HCX.out _ hbX6 _ _ HL1.out).trans t1; have g1 := (HCX.out _ hbX6 _ _ HL3.out).trans y0; have g2 := (HCX.out _ hbX6 _ _ HL2.out).trans s1; have g3 := (HCX.out _ hbX6 _ _ HL4.out).trans y1))
              go_wp2
              go_roundw
              case rel => exact ⟨p + 1, a6, c6, by go_num, by omega, rfl, by rw [HZT.out]; exact hown6, hb6⟩
              case measure => simp [intOf]; omega
            · obtain rfl : p = vn := by omega
              rw [List.take_of_length_le (by rw [HZL.out]; exact Nat.le_refl _)] at hown
              have hXr := hX5.belowN hbX9
              obtain ⟨x0, x1, x2, x3⟩ := hXr.c2
              have hBr := hBz.trans (hbX9.mono hBz.size)
              obtain ⟨R1, hR1⟩ : ∃ R1, rightT (p : Int) Z = R1 := ⟨_, rfl⟩
              have HRC := hide (RRight_calls (p : Int) ae p ce Z HZL.out.symm wr hown.at_ (by omega) R1 hR1)
              have hmt : (mul1 t s).2 = Z := HZ.out
              have hRi2 := HRi2.out
              rw [hmt, hR1] at hRi2
              cases R1 with
              | false =>
                have hQF : R = false := by rw [← hRi2]; rfl
                have hV := HV.out
                have hL := HL.out
                have hE := HE.out
                unfold mulV at hV
                unfold mulL at hL
                unfold mulE at hE
                rw [HR.out, hQF] at hV hL hE
                rw [if_neg (by decide)] at hV hL hE
                subst hV hL hE
                clear hRi2 hR1 hmt hQF
                go_wp2_with (go_at_call 101; ((with_reducible refine (HRC.out).mono ?_); rintro v w5 ⟨rfl, rfl⟩))
                have hF6 := (hXr.set_ 0 (.int .i64 0)).set_ 1 (.slice none 0 0)
                refine bodyPost_ret (results_rowP rfl _ _ (w.heap.size + 1 + 1) _ #[.int .i64 0, .slice none 0 0] (0, 0) _ rfl hF6 Tryz.underlying42 rfl (by kernel_rfl)) rfl ?_
                exact PolyOut.bad _ _ _ ((hBr.setCell (p := ⟨w.heap.size + 1 + 1, 0, none⟩) (by show _ ≤ w.heap.size + 1 + 1; omega) (.int .i64 0)).setCell (p := ⟨w.heap.size + 1 + 1, 1, none⟩) (by show _ ≤ w.heap.size + 1 + 1; omega) (.slice none 0 0))
              | true =>
                rw [Bool.true_and] at hRi2
                have HRi3 := hide hRi2
                have HPi2 := hide (rightL_snoc (t := mul1 t s) hPi.out (by rw [hmt]; exact hR1))
                have HLB := hide (show o ≤ 16777216 by
                  have h1 := HLA.out
                  rw [ho.out, List.length_append, List.length_map, List.length_take, ← HM.out, Nat.min_eq_left (by omega)]
                  omega)
                obtain ⟨b1, off1, t', ea, en, ec, rfl, ht', t0, t1, hrow⟩ := hA2.getB hbX9 (k := k) (by rw [← HN.out]; omega)
                obtain rfl : t' = t := Option.some.inj (ht'.out.symm.trans HT.out)
                obtain ⟨b2, off2, s', fa, fn, fc, rfl, hs', s0, s1, hrowS⟩ := hBB2.getB hbX9 (k := i) (by rw [← HM.out]; omega)
                obtain rfl : s' = s := Option.some.inj (hs'.out.symm.trans HS.out)
                have hl1 : b1 < w2.heap.size := hA2.lt (by rw [← HN.out]; omega)
                have hl2 : b2 < w2.heap.size := hBB2.lt (by rw [← HM.out]; omega)
                have HCX := hide (fun (W : World) (k9 : Below w2.heap.size w2 W) (b9 o9 : Nat) (hl9 : b9 < w2.heap.size) => show W.cell? ⟨b9, o9, none⟩ = wr.cell? ⟨b9, o9, none⟩ from ((bcell k9).1 b9 o9 hl9).trans ((bcell hbX9).1 b9 o9 hl9).symm)
                have HL1 := hide hl1
                have HL2 := hide hl2
                obtain ⟨z, hz⟩ : ∃ z, (mul1 t' s').1 = z := ⟨_, rfl⟩
                have hnw : ∀ W, Calls Tryz.prog 94 #[.int .u64 (t'.1.toNat : Int), .int .u64 (s'.1.toNat : Int)] W fun e w' => e = .returned (.int .u64 (z.toNat : Int)) ∧ Below W.heap.size W w' := fun W => by rw [← hz]; exact Times_calls t'.1 s'.1 W
                have HNW := hide hnw
                have HMT : Hid (mul1 t' s' = (z, Z)) := Prod.ext hz hmt
                have hBw := Below.drew (Below.refl wr.heap.size wr)
                have hOr := HO.out.belowN hbi
                have hOHL : o = hs.length := by rw [HO.out.len]; exact ho.out
                have HHL := hide hOHL
                have HOR := hide hOr
                have HRC2 := hide (RRight_calls (p : Int) ae p ce Z HZL.out.symm wr hown.at_ (by omega) true hR1)
                have HO9 : Hid (o ≤ 1000000000) := hide (by have := HLB.out; omega)
                have hcap5 := hown.cap
                rw [HZL.out] at hcap5
                clear hRi2 hR1 hmt ht' hs' hl1 hl2 hz hnw hOr hOHL HRC
                go_wp2_with (go_at_call 101; ((with_reducible refine (HRC2.out).mono ?_); rintro v w5 ⟨rfl, rfl⟩))
                go_region_held3 (fun w' => w'.cell? ⟨w.heap.size, 1, none⟩ = some (.slice (some ⟨b1, off1, none⟩) n c) ∧ w'.cell? ⟨b1, off1 + k * 2, none⟩ = some (.int .u64 (t'.1.toNat : Int)) ∧ w'.cell? ⟨w.heap.size + 1, 1, none⟩ = some (.slice (some ⟨b2, off2, none⟩) m d) ∧ w'.cell? ⟨b2, off2 + i * 2, none⟩ = some (.int .u64 (s'.1.toNat : Int))) (go_keep)
                  (first
                    | (go_at_call 94; ((with_reducible refine (HNW.out _).mono ?_); rintro v w5 ⟨rfl, hb5⟩; have hB5 := hBw.trans (hb5.mono hBw.size); have hbX5 := hbX9.trans (hB5.mono hzp); have hz5 := hB5.size; obtain ⟨e0, e3, e4, e5⟩ := (hY1.belowN hbX5).c2; obtain ⟨f0, f1, f2, f3⟩ := (hY2.belowN hbX5).c2; have g0 := (HCX.out _ hbX5 _ _ HL1.out).trans t0; have g2 := (HCX.out _ hbX5 _ _ HL2.out).trans s0; have hO5 := HOR.out.belowN hB5; have hAZ : At (w5.alloc (.cells #[.int .u64 (z.toNat : Int), .slice ae p ce] 92)) (some ⟨w5.heap.size, 0, none⟩) [(⟨z, ae, p, ce⟩ : TmH)] := At.ofBlk (Blk.new w5 _ #[.int .u64 (z.toNat : Int), .slice ae p ce]) _ rfl; have hbz5 := hbX5.size; have hzA : w2.heap.size ≤ (w5.alloc (.cells #[.int .u64 (z.toNat : Int), .slice ae p ce] 92)).heap.size := (by rw [World.size_alloc]; omega)))
                    | ((refine step_pushAll tyT (hO5.out.alloc _) (l2 := [(⟨z, ae, p, ce⟩ : TmH)]) hAZ rfl rfl rfl rfl HHL.out rfl hzA HO9.out (show 1 ≤ 1000000000 by decide) ?_; intro a6 c6 w6 hown6 hg6 hcs6; have hbX6 := below_push (hbX5.alloc hbz5 (.cells #[.int .u64 (z.toNat : Int), .slice ae p ce] 92)) (hO5.out.alloc (.cells #[.int .u64 (z.toNat : Int), .slice ae p ce] 92)) hg6 hzA; obtain ⟨e6, e7, e8, e9⟩ := (hY1.belowN hbX6).c2; obtain ⟨f4, f5, f6, f7⟩ := (hY2.belowN hbX6).c2; have g4 := (HCX.out _ hbX6 _ _ HL1.out).trans t0; have g5 := (HCX.out _ hbX6 _ _ HL2.out).trans s0)))
                have hrow9 : TmH.of (w5.alloc (.cells #[.int .u64 (z.toNat : Int), .slice ae p ce] 92)) ⟨z, ae, p, ce⟩ (z, Z) := ⟨rfl, HZL.out.symm, hcap5.1, Nat.le_trans hcap5.2 (by decide), ((hown.belowN hB5).alloc _).at_⟩
                have hOT := (hO5.belowN (below_box w5 (.cells #[.int .u64 (z.toNat : Int), .slice ae p ce] 92))).push hown6 hg6 hcs6 hrow9 (fun hne => ⟨fun e => by
                  obtain ⟨q9, hq9, h9⟩ : ∃ q9, ae = some ⟨q9, 0, none⟩ ∧ wi.heap.size ≤ q9 := by
                    obtain ⟨q9, h1, h2, _⟩ := hown.some_ hne
                    exact ⟨q9, h1, h2⟩
                  have e9 : ao.map (·.block) = some q9 := by rw [← e, hq9]; rfl
                  have := (HO.out.out.blk q9 e9).2
                  omega, fun _ _ => trivial⟩)
                have hfin : mulT (A.take k) B ++ (B.take (i + 1)).map (mul1 t') = mulT (A.take k) B ++ (B.take i).map (mul1 t') ++ [(z, Z)] := by rw [HBT.out, ← List.append_assoc, HMT.out]
                have HFIN := hide hfin
                clear hfin
                go_wp2
                go_roundw
                case rel =>
                  exact ⟨i + 1, o + 1, a6, c6, _, by go_num, by omega, rfl, by show _ = _; rw [HFIN.out, List.length_append, ← ho.out]; rfl, HRi3.out, by rw [HFIN.out, ← HMT.out]; exact HPi2.out, by rw [HFIN.out]; exact hOT, hbX6⟩
                case measure => simp [intOf]; omega
        · obtain rfl : i = m := by omega
          have hRi2 := hRi.out
          have hPi2 := hPi.out
          have ho2 := ho.out
          rw [List.drop_eq_nil_of_le (by rw [← HM.out]; exact Nat.le_refl _), List.map_nil, List.nil_append] at hRi2
          rw [show B.take i = B from List.take_of_length_le (by rw [← HM.out]; exact Nat.le_refl _)] at hPi2 hO ho2
          rw [← HTA.out] at hPi2 hO ho2
          have HRi2 := hide hRi2
          have HPi2 := hide hPi2
          have HO2 := hide ho2
          clear hRi2 hPi2 ho2
          go_wp2
          go_roundw
          case rel => exact ⟨k + 1, o, ao, co, hs, by go_num, by omega, rfl, HO2.out, HRi2.out, HPi2.out, hO, hbX⟩
          case measure => simp [intOf]; omega
    · obtain rfl : k = n := by omega
      have htk : A.take k = A := List.take_of_length_le (by rw [← HN.out]; exact Nat.le_refl _)
      have hP2 := hPk.out
      rw [htk] at hP2 hO ho
      have hV := HV.out
      have hL := HL.out
      have hE := HE.out
      unfold mulV at hV
      unfold mulL at hL
      unfold mulE at hE
      rw [if_pos hP2] at hV hL hE
      have hml : (mulT A B).length ≤ 16777216 := by
        rw [mulT_len, ← HN.out, ← HM.out]
        exact Nat.mul_le_mul hn4 hm4
      have hT := hO.out_ (n := o) ho.out
      have h6 : ∀ t ∈ mulT A B, t.2.length ≤ 1000000 := fun t ht => by
        have := rightT_len (List.all_eq_true.1 hP2 t ht)
        omega
      have HMK2 := hide (RMake_calls _ (vn : Int) ao o co (mulT A B) wr hT (by rw [ho.out]; omega) h6 V L E hV hL hE)
      clear htk hP2 hV hL hE hml h6
      go_wp2_with (go_at_call 91; ((with_reducible refine (HMK2.out).mono ?_); rintro v w6 ⟨a6, n6, c6, rfl, hT6, hb6⟩; have hX9 := hXr.belowN hb6; obtain ⟨y0, y1, y2, y3⟩ := hX9.c2))
      have hF6 := (hX9.set_ 0 (.int .i64 V)).set_ 1 (.slice a6 n6 c6)
      refine bodyPost_ret (results_rowP rfl _ _ (w.heap.size + 1 + 1) _ #[.int .i64 V, .slice a6 n6 c6] (0, 0) _ rfl hF6 Tryz.underlying42 rfl (by kernel_rfl)) rfl ?_
      exact PolyOut.stored (hBr.trans (hb6.mono hBr.size)) hT6 (by omega) hXr.lt hBr.size
end Go.Proofs.YtcamcnahkdiefaaGreat

/- Several texts of mine in one file: W3a, Pl, Pl2. -/
/- Chapter 3: what comes out is small; the page's example. -/
namespace Go.Proofs.YtcamcnahkdiefaaGreat
set_option linter.unusedVariables false
set_option linter.unusedSimpArgs false
open Go.RowKit
structure OutOk (L : List Tm) : Prop where
  len : L.length ≤ 4096
  exp : ∀ t ∈ L, t.2.length ≤ 64
theorem OutOk.nil : OutOk [] := ⟨by decide, fun t ht => by simp at ht⟩
end Go.Proofs.YtcamcnahkdiefaaGreat

/- Plain: sums, products and derivatives by any weights. -/
namespace Go.Proofs.YtcamcnahkdiefaaGreat
set_option linter.unusedVariables false
set_option linter.unusedSimpArgs false
theorem InE.getD {e : List Int} (h : InE e) (i : Nat) : 0 ≤ e.getD i 0 := by
  by_cases hi : i < e.length
  · have : e.getD i 0 ∈ e := by rw [List.getD_eq_getElem?_getD, List.getElem?_eq_getElem hi]; exact List.getElem_mem hi
    exact (h _ this).1
  · rw [List.getD_eq_getElem?_getD, List.getElem?_eq_none (by omega)]; exact Int.le_refl _
theorem chk_of_canon {vars : Int} {n : Nat} : ∀ (pr : Option (List Int)) (l : List Tm), Canon n l → (∀ t ∈ l, rightT vars t.2 = true) → (∀ e, pr = some e → ∀ t ∈ l, ordR e t.2 < 0) → chkT vars pr l = true
  | pr, [], _, _, _ => by cases pr <;> rfl
  | pr, t :: l, hc, hr, hp => by
    have h1 : (t.1 != 0) = true := by simpa using hc.nz t List.mem_cons_self
    have h2 := hr t List.mem_cons_self
    have h3 : okPrev pr t.2 = true := by
      cases pr with
      | none => rfl
      | some e => exact decide_eq_true (hp e rfl t List.mem_cons_self)
    have h4 := chk_of_canon (some t.2) l hc.tail (fun s hs => hr s (List.mem_cons_of_mem _ hs)) (fun e he s hs => by
      injection he with he
      rw [← he]
      exact (List.pairwise_cons.1 hc.srt).1 s hs)
    rw [chkT, h1, h2, h3, h4]; rfl
theorem mem_sort {n : Nat} (l : List Tm) (h : LenT n l) : ∀ t ∈ sortT l, ∃ s ∈ l, s.2 = t.2 := by
  intro t ht
  refine Decidable.byContradiction fun hn => ?_
  have h0 : ∀ s ∈ l, s.2 ≠ t.2 := fun s hs e => hn ⟨s, hs, e⟩
  have h1 := lin_sort (dlt t.2) l h
  rw [lin_dlt_out t.2 l h0, lin_dlt_mem (sortT_canon l h) t ht] at h1
  exact (sortT_canon l h).nz t ht h1
theorem right_sort {vars : Int} {l : List Tm} (h : rightL vars l = true) : rightL vars (sortT l) = true := by
  refine List.all_eq_true.2 fun t ht => ?_
  obtain ⟨s, hs, e⟩ := mem_sort l (rightL_len h) t ht
  rw [← e]
  exact List.all_eq_true.1 h s hs
theorem mk_of_ok {vars : Int} {l : List Tm} (hv : ¬ (vars < 0 ∨ 64 < vars)) (hr : rightL vars l = true) (hl : (sortT l).length ≤ 4096) : mkE vars l = 0 ∧ mkV vars l = vars ∧ mkL vars l = sortT l := by
  have e : mkE vars l = 0 := by unfold mkE; rw [if_neg hv, if_neg (by rw [hr]; decide), if_neg (by omega)]
  exact ⟨e, by unfold mkV; rw [e]; rfl, by unfold mkL; rw [e]; rfl⟩
theorem check_sort {vars : Int} {l : List Tm} (hv : ¬ (vars < 0 ∨ 64 < vars)) (hr : rightL vars l = true) (hl : (sortT l).length ≤ 4096) : checkP vars (sortT l) = true := by
  unfold checkP
  rw [decide_eq_true (show 0 ≤ vars by omega), decide_eq_true (show vars ≤ 64 by omega), decide_eq_true hl, chk_of_canon none _ (sortT_canon l (rightL_len hr)) (List.all_eq_true.1 (right_sort hr)) (fun e he => by cases he)]
  rfl
theorem mk_ok0 {vars : Int} {l : List Tm} (h : mkE vars l = 0) : mkV vars l = vars ∧ mkL vars l = sortT l ∧ rightL vars l = true ∧ ¬ (vars < 0 ∨ 64 < vars) ∧ (sortT l).length ≤ 4096 ∧ checkP vars (sortT l) = true := by
  have h0 := h
  unfold mkE at h
  split at h
  · cases h
  · rename_i hv
    split at h
    · cases h
    · rename_i hr
      split at h
      · cases h
      · rename_i hl
        have hr' : rightL vars l = true := by simpa using hr
        exact ⟨by unfold mkV; rw [h0]; rfl, by unfold mkL; rw [h0]; rfl, hr', hv, by omega, check_sort hv hr' (by omega)⟩
end Go.Proofs.YtcamcnahkdiefaaGreat

/- Plain: the derivative of a product. -/
namespace Go.Proofs.YtcamcnahkdiefaaGreat
set_option linter.unusedVariables false
set_option linter.unusedSimpArgs false
end Go.Proofs.YtcamcnahkdiefaaGreat
