/- Several texts of mine in one file. -/
import Derived.Test.YtcamcnahkdiefaaGreatYMNam
import Derived.Test.YtcamcnahkdiefaaGreatYMNac
import Derived.Test.YtcamcnahkdiefaaGreatYMNah
import Derived.Test.YtcamcnahkdiefaaGreatYMNad
/- Several texts of mine in one file: Pw, Px, Py, Pz, Pz2. -/
/- Sums of both sides. -/
namespace Go.Proofs.YtcamcnahkdiefaaGreat
set_option linter.unusedVariables false
set_option linter.unusedSimpArgs false
open Go.RowKit
theorem OkP.len6 {vars : Int} {n : Nat} {ts : List Tm} (h : OkP vars n ts) : ∀ t ∈ ts, t.2.length ≤ 1000000 := fun t ht => by
  have := h.can.len t ht; have := h.n64; omega
theorem AtHH.two {P Q : Nat → Prop} {w : World} {a b : Option Addr} {n c m d : Nat} {A B : List Tm} (h : TOut P w a n c A) (h' : TOut Q w b m d B) :
    ∃ l1 l2 : List TmH, (∀ W g, Below w.heap.size w W → Blk W g 40 #[.slice a n c, .slice b m d] → AtHH W (some ⟨g, 0, none⟩) [l1, l2]) ∧ n + m = [l1, l2].flatten.length ∧
      ∀ (W W' : World) (B' : Nat) (a' : Option Addr) (c' : Nat), Below w.heap.size w W' → Own W' B' 92 a' c' [l1, l2].flatten → TOut (fun _ => True) W' a' (n + m) c' (A ++ B) := by
  obtain ⟨l1, a1, a2, a3, _, _⟩ := h.at_
  obtain ⟨l2, b1, b2, b3, _, _⟩ := h'.at_
  have e1 : n = l1.length := by rw [h.len, a2]
  have e2 : m = l2.length := by rw [h'.len, b2]
  refine ⟨l1, l2, fun W g hb hB => ?_, by simp [e1, e2], fun W W' B' a' c' hb ho => ?_⟩
  · refine ⟨[⟨a, n, c⟩, ⟨b, m, d⟩], At.ofBlk hB _ rfl, rfl, fun i x l q1 q2 => ?_⟩
    match i with
    | 0 =>
      simp at q1 q2
      subst q1 q2
      exact ⟨e1, h.cap, h.max, a1.belowN hb⟩
    | 1 =>
      simp at q1 q2
      subst q1 q2
      exact ⟨e2, h'.cap, h'.max, b1.belowN hb⟩
    | i + 2 => simp at q1
  · have hf : [l1, l2].flatten = l1 ++ l2 := by simp
    rw [hf] at ho
    have hcap := ho.cap
    have hl : (l1 ++ l2).length = n + m := by rw [List.length_append, ← e1, ← e2]
    rw [hl] at hcap
    refine ⟨by rw [List.length_append, h.len, h'.len], hcap.1, Nat.le_trans hcap.2 (by decide), AtT.any ⟨l1 ++ l2, ho.at_, by simp [a2, b2], fun i x t q1 q2 => ?_⟩⟩
    by_cases hi : i < l1.length
    · rw [List.getElem?_append_left hi] at q1
      rw [List.getElem?_append_left (by omega)] at q2
      exact (a3 i x t q1 q2).belowN hb
    · rw [List.getElem?_append_right (by omega)] at q1
      rw [List.getElem?_append_right (by omega), ← a2] at q2
      exact (b3 _ x t q1 q2).belowN hb
set_option maxRecDepth 100000 in
set_option maxHeartbeats 6400000 in
theorem PAdd_good (P Q : Nat → Prop) (va : Int) (a b : Option Addr) (n c m d : Nat) (A B : List Tm) (w : World) (h : TOut P w a n c A) (h' : TOut Q w b m d B) (hQA : checkP va A = true) (hQB : checkP va B = true) (V : Int) (L : List Tm) (E : Int) (hV : mkV va (A ++ B) = V) (hL : mkL va (A ++ B) = L) (hE : mkE va (A ++ B) = E) :
    Calls Tryz.prog 160 #[.agg #[.int .i64 va, .slice a n c], .agg #[.int .i64 va, .slice b m d]] w (PolyOut V L E w) := by
  obtain ⟨hX1, hX2, hX3, hb0, hz0⟩ := three_boxes w 42 42 42 #[.int .i64 va, .slice a n c] #[.int .i64 va, .slice b m d] #[.int .i64 0, .slice none 0 0]
  obtain ⟨W0, hW0⟩ : ∃ W0, ((w.alloc (.cells #[.int .i64 va, .slice a n c] 42)).alloc (.cells #[.int .i64 va, .slice b m d] 42)).alloc (.cells #[.int .i64 0, .slice none 0 0] 42) = W0 := ⟨_, rfl⟩
  rw [hW0] at hX1 hX2 hX3 hb0 hz0
  have hokA := checkP_ok hQA
  have hokB := checkP_ok hQB
  have hn4 : n ≤ 4096 := by rw [h.len]; exact hokA.len
  have hm4 : m ≤ 4096 := by rw [h'.len]; exact hokB.len
  have HCA := hide (Check_calls va a n c A h.len W0 (h.at_.at_.belowN hb0) (by omega) hokA.len6 true hQA)
  have HCB := hide (fun (W : World) (k : Below W0.heap.size W0 W) => Check_calls va b m d B h'.len W ((h'.at_.at_.belowN hb0).belowN k) (by omega) hokB.len6 true hQB)
  obtain ⟨p0, p1, p2, p3⟩ := hX1.c2
  obtain ⟨q0, q1, q2, q3⟩ := hX2.c2
  have HW0 := hide hW0
  have e1 : (va != va) = false := by simp
  have e2 : (va == va) = true := by simp
  have i1 : w.heap.size + 1 + 1 ≠ w.heap.size := by omega
  have i2 : w.heap.size + 1 + 1 ≠ w.heap.size + 1 := by omega
  have i3 : w.heap.size ≠ w.heap.size + 1 + 1 := by omega
  have i4 : w.heap.size + 1 ≠ w.heap.size + 1 + 1 := by omega
  obtain ⟨l1, l2, t1, t2, t3⟩ := AtHH.two h h'
  have HCC := hide (fun (W : World) (g : Nat) (k : Below w.heap.size w W) (kb : Blk W g 40 #[.slice a n c, .slice b m d]) => ConcatT_calls (some ⟨g, 0, none⟩) 2 2 [l1, l2] W rfl (t1 W g k kb) (by decide) (by rw [← t2]; omega) (n + m) t2)
  have HT3 := hide t3
  have hM6 : ∀ t ∈ A ++ B, t.2.length ≤ 1000000 := fun t ht => (List.mem_append.1 ht).elim (hokA.len6 t) (hokB.len6 t)
  have HMK := hide (fun (W : World) (a3 : Option Addr) (c3 : Nat) (k : TOut (fun _ => True) W a3 (n + m) c3 (A ++ B)) => PMake_calls (fun _ => True) va a3 (n + m) c3 (A ++ B) W k (by omega) hM6 V L E hV hL hE)
  clear hQA hQB h h' hW0 hokA hokB hV hL hE hM6 t1 t2 t3
  go_enter Tryz.func160, Tryz.ntmps160
  go_wp2_with (first
    | (have hgd := hb1; go_at_call 49; go_must ((with_reducible refine (HCB.out _ hb1).mono ?_); rintro v w2 ⟨rfl, hb2⟩; have hB2 := hb1.trans (hb2.mono hb1.size); have hX5 := hX3.belowN hB2; obtain ⟨r0, r1, r2, r3⟩ := (hX1.belowN hB2).c2; obtain ⟨s0, s1, s2, s3⟩ := (hX2.belowN hB2).c2))
    | (go_at_call 49; go_must ((rw [HW0.out]); (with_reducible refine (HCA.out).mono ?_); rintro v w1 ⟨rfl, hb1⟩; obtain ⟨s0, s1, s2, s3⟩ := (hX2.belowN hb1).c2)))
  have hBz := hb0.trans (hB2.mono hb0.size)
  have hBw := Below.drew (Below.refl w2.heap.size w2)
  have hzz := hBz.size
  have hW1b : Below w2.heap.size w2 (w2.alloc (.cells #[.slice a n c, .slice b m d] 40)).drew := Below.drew (below_box w2 _)
  have hW1k : Blk (w2.alloc (.cells #[.slice a n c, .slice b m d] 40)).drew w2.heap.size 40 #[.slice a n c, .slice b m d] := Blk.new w2 _ _
  go_region_held3 (fun w' => w'.cell? ⟨w.heap.size, 0, none⟩ = some (.int .i64 va) ∧ w'.cell? ⟨w.heap.size, 1, none⟩ = some (.slice a n c) ∧ w'.cell? ⟨w.heap.size + 1, 1, none⟩ = some (.slice b m d)) (go_keep)
    (first
      | (go_at_call 187; go_must ((with_reducible refine (HCC.out _ _ (hBz.trans (hW1b.mono hzz)) hW1k).mono ?_); rintro v w3 ⟨a3, c3, rfl, hown3, hb3⟩; have hB3 := hW1b.trans (hb3.mono hW1b.size); have hT3 := HT3.out w3 w3 _ a3 c3 (hBz.trans (hB3.mono hzz)) hown3; obtain ⟨t0, t1, t2, t3⟩ := ((hX1.belowN hB2).belowN hB3).c2; obtain ⟨u0, u1, u2, u3⟩ := ((hX2.belowN hB2).belowN hB3).c2))
      | (go_at_call 84; go_must ((with_reducible refine (HMK.out _ _ _ hT3).mono ?_); rintro v w5 ⟨a5, n5, c5, rfl, hT5, hb5⟩; have hB5 := hB3.trans (hb5.mono hB3.size); have hX9 := hX5.belowN hB5; obtain ⟨x0, x1, x2, x3⟩ := hX9.c2; obtain ⟨t4, t5, t6, t7⟩ := ((hX1.belowN hB2).belowN hB5).c2; obtain ⟨u4, u5, u6, u7⟩ := ((hX2.belowN hB2).belowN hB5).c2)))
  go_wp2
  have hF6 := (hX9.set_ 0 (.int .i64 V)).set_ 1 (.slice a5 n5 c5)
  refine bodyPost_ret (results_rowP rfl _ _ (w.heap.size + 1 + 1) _ #[.int .i64 V, .slice a5 n5 c5] (0, 0) _ rfl hF6 Tryz.underlying42 rfl (by kernel_rfl)) rfl ?_
  exact PolyOut.stored (hBz.trans (hB5.mono hzz)) hT5 (by omega) (hX5.belowN hB3).lt (Nat.le_trans hzz hB3.size)
end Go.Proofs.YtcamcnahkdiefaaGreat

/- Negatives of both sides. -/
namespace Go.Proofs.YtcamcnahkdiefaaGreat
set_option linter.unusedVariables false
set_option linter.unusedSimpArgs false
open Go.RowKit
theorem AtTP.lt {P : Nat → Prop} {w : World} {b off : Nat} {ts : List Tm} (h : AtTP P w (some ⟨b, off, none⟩) ts) (hne : 0 < ts.length) : b < w.heap.size := by
  obtain ⟨hs, h1, h2, _⟩ := h
  obtain ⟨b', off', e, hb⟩ := h1.lt (by rintro rfl; simp at h2; omega)
  injection e with e
  injection e with e _
  omega
def negT (l : List Tm) : List Tm := l.map fun t => (0 - t.1, t.2)
theorem negT_take {l : List Tm} {k : Nat} {t : Tm} (h : l[k]? = some t) : (negT l).take (k + 1) = (negT l).take k ++ [(0 - t.1, t.2)] := by
  unfold negT
  rw [List.take_add_one, List.getElem?_map, h]; rfl
theorem negT_right {vars : Int} {l : List Tm} (h : rightL vars l = true) : rightL vars (negT l) = true := by
  refine List.all_eq_true.2 fun t ht => ?_
  obtain ⟨s, hs, rfl⟩ := List.mem_map.1 ht
  exact List.all_eq_true.1 h s hs
theorem negT_len (l : List Tm) : (negT l).length = l.length := by simp [negT]
theorem NegW_calls (x : UInt64) (w : World) : Calls Tryz.prog 188 #[.int .u64 (x.toNat : Int)] w fun v w' => v = .returned (.int .u64 ((0 - x).toNat : Int)) ∧ w = w' := by
  have h := u64_neg x
  go_enter Tryz.func188, Tryz.ntmps188
  go_wp2
  go_ret
  exact ⟨rfl, rfl⟩
set_option maxRecDepth 100000 in
set_option maxHeartbeats 6400000 in
theorem PNeg_good (P : Nat → Prop) (va : Int) (a : Option Addr) (n c : Nat) (A : List Tm) (w : World) (h : TOut P w a n c A) (hQ : checkP va A = true) (V : Int) (L : List Tm) (E : Int) (hV : mkV va (negT A) = V) (hL : mkL va (negT A) = L) (hE : mkE va (negT A) = E) :
    Calls Tryz.prog 161 #[.agg #[.int .i64 va, .slice a n c]] w (PolyOut V L E w) := by
  obtain ⟨hX1, hX3, hb0, hz0⟩ := two_boxes w 42 42 #[.int .i64 va, .slice a n c] #[.int .i64 0, .slice none 0 0]
  obtain ⟨W0, hW0⟩ : ∃ W0, (w.alloc (.cells #[.int .i64 va, .slice a n c] 42)).alloc (.cells #[.int .i64 0, .slice none 0 0] 42) = W0 := ⟨_, rfl⟩
  rw [hW0] at hX1 hX3 hb0 hz0
  have hok := checkP_ok hQ
  have hn4 : n ≤ 4096 := by rw [h.len]; exact hok.len
  have HCA := hide (Check_calls va a n c A h.len W0 (h.at_.at_.belowN hb0) (by omega) hok.len6 true hQ)
  obtain ⟨p0, p1, p2, p3⟩ := hX1.c2
  have HW0 := hide hW0
  have HN := hide h.len
  have hat := h.at_.belowN hb0
  have HRT := hide hok.rt
  have HOK := hide hok
  have HV := hide hV
  have HL := hide hL
  have HE := hide hE
  have HH := hide (fun W => Heap_calls va.toNat va W)
  clear hQ h hW0 hok hV hL hE
  go_enter Tryz.func161, Tryz.ntmps161
  go_wp2_with (first
    | (go_at_call 49; go_must ((rw [HW0.out]); (with_reducible refine (HCA.out).mono ?_); rintro v w1 ⟨rfl, hb1⟩; obtain ⟨r0, r1, r2, r3⟩ := (hX1.belowN hb1).c2))
    | (go_at_call 73; go_must ((with_reducible refine (HH.out _).mono ?_); rintro v w2 ⟨rfl, hH2, hb2⟩; have hB2 := hb1.trans (hb2.mono hb1.size); obtain ⟨s0, s1, s2, s3⟩ := (hX1.belowN hB2).c2)))
  obtain ⟨g, hg⟩ : ∃ g, g = w1.heap.size := ⟨_, rfl⟩
  rw [← hg] at hH2 ⊢
  have hX5 := hX3.belowN hb1
  have hgw : w.heap.size + 1 < g := by rw [hg]; exact hX5.lt
  have hBz := hb0.trans (hb1.mono hb0.size)
  have HG := hide hg
  have hat1 := hat.belowN hb1
  have hb2g : Below g w1 w2 := by rw [hg]; exact hb2
  clear hg HH HCA hb2 hB2
  go_loopw [21] (fun iv wr => ∃ k : Nat, iv = .int .i64 k ∧ k ≤ n ∧ HeapT wr g va va.toNat ((negT A).take k) ∧ Below g w1 wr) (fun iv _ => n - (intOf iv).toNat)
  case atStart => exact ⟨0, rfl, by omega, hH2, hb2g⟩
  case round =>
    obtain ⟨k, rfl, hk, hH, hbr⟩ := hrel
    have hbX : Below w1.heap.size w1 wr := hbr.mono (by rw [HG.out]; exact Nat.le_refl _)
    have hzr := hH.lt
    have hXr := hX5.belowN hbX
    have hBr := hBz.trans (hbX.mono hBz.size)
    obtain ⟨x0, x1, x2, x3⟩ := hXr.c2
    by_cases hlt : k < n
    · obtain ⟨b1, off1, t, ea, en, ec, rfl, ht, t0, t1, hrow, hfar⟩ := hat1.getF hbX (k := k) (by rw [← HN.out]; exact hlt)
      have hk0 : (0 : Int) ≤ (k : Int) := by omega
      have hk1 : (k : Int) < (n : Int) := by omega
      have hen : en = t.2.length := hrow.out.2.1
      have hrt := HRT.out t (List.mem_of_getElem? ht.out)
      have hlen := rightT_len hrt
      have hv := HOK.out.n64
      have hbx := below_box wr (.cells #[.int .u64 (t.1.toNat : Int), .slice ea en ec] 92)
      have hT := Blk.new wr 92 #[.int .u64 (t.1.toNat : Int), .slice ea en ec]
      obtain ⟨r0, r1, r2, r3⟩ := hT.c2
      have hea := hrow.out.2.2.2.2.belowN hbx
      obtain ⟨z, hz⟩ : ∃ z, 0 - t.1 = z := ⟨_, rfl⟩
      have HNW := hide (fun W => NegW_calls t.1 W)
      have HTK := hide (negT_take ht.out)
      rw [hz] at HNW HTK
      have HPT := hide (Put_calls ((wr.alloc (.cells #[.int .u64 (t.1.toNat : Int), .slice ea en ec] 92)).drew) g va va.toNat ((negT A).take k) ((hH.belowN hbx).belowN (Below.drew (Below.refl _ _))) (by rw [List.length_take]; omega) (z, t.2) ea en ec hen (by show t.2.length = _; omega) (by omega) (rightT_in hrt) hea)
      have hBw := Below.drew (Below.refl (wr.alloc (.cells #[.int .u64 (t.1.toNat : Int), .slice ea en ec] 92)).heap.size (wr.alloc (.cells #[.int .u64 (t.1.toNat : Int), .slice ea en ec] 92)))
      clear ht hen hlen hrt hz
      go_wp2
      go_region_held3 (fun w' => w'.cell? ⟨wr.heap.size, 0, none⟩ = some (.int .u64 (t.1.toNat : Int)) ∧ w'.cell? ⟨wr.heap.size, 1, none⟩ = some (.slice ea en ec)) (go_keep)
        (first
          | (go_at_call 188; go_must ((with_reducible refine (HNW.out _).mono ?_); rintro v w5 ⟨rfl, rfl⟩))
          | (go_at_call 117; go_must ((with_reducible refine (HPT.out).mono ?_); rintro v w6 ⟨rfl, hH6, hg6⟩; obtain ⟨q4, q5, q6, q7⟩ := (Blk.grown (w := (wr.alloc (.cells #[.int .u64 (t.1.toNat : Int), .slice ea en ec] 92)).drew) hT hg6 (by simp; omega)).c2)))
      go_wp2
      go_roundw
      case rel => exact ⟨k + 1, by go_num, by omega, by rw [HTK.out]; exact hH6, ((hbr.alloc (by omega) _).trans ((below_drawn _ _ 1))).grown hg6 (by simp; omega) (fun j hj => by cases hj; omega)⟩
      case measure => simp [intOf]; omega
    · obtain rfl : k = n := by omega
      have hneg : (negT A).take k = negT A := List.take_of_length_le (by rw [negT_len, ← HN.out]; exact Nat.le_refl _)
      rw [hneg] at hH
      have hP2 := negT_right HOK.out.right
      obtain ⟨q1, q2, q3⟩ := mk_ok HOK.out.range hP2
      have HA := hide (All_calls wr g va va.toNat (negT A) hH (by rw [negT_len, ← HN.out]; omega) (LenT.of_right (List.all_eq_true.1 hP2)) (rightL_in hP2) (by have := HOK.out.n64; omega) V L E (by rw [← q2, HV.out]) (by rw [← q3, HL.out]) (by rw [← q1, HE.out]))
      clear hP2 q1 q2 q3 hneg
      go_wp2_with (go_at_call 119; go_must ((with_reducible refine (HA.out).mono ?_); rintro v w6 ⟨a6, n6, c6, rfl, hT6, hb6⟩; have hX6 := hXr.belowN hb6; obtain ⟨y0, y1, y2, y3⟩ := hX6.c2))
      have hF6 := (hX6.set_ 0 (.int .i64 V)).set_ 1 (.slice a6 n6 c6)
      refine bodyPost_ret (results_rowP rfl _ _ (w.heap.size + 1) _ #[.int .i64 V, .slice a6 n6 c6] (0, 0) _ rfl hF6 Tryz.underlying42 rfl (by kernel_rfl)) rfl ?_
      exact PolyOut.stored (hBr.trans (hb6.mono hBr.size)) hT6 (by omega) hXr.lt hBr.size
end Go.Proofs.YtcamcnahkdiefaaGreat

/- Derivatives of both sides. -/
namespace Go.Proofs.YtcamcnahkdiefaaGreat
set_option linter.unusedVariables false
set_option linter.unusedSimpArgs false
open Go.RowKit
end Go.Proofs.YtcamcnahkdiefaaGreat

/- Products: poly.Mul. -/
namespace Go.Proofs.YtcamcnahkdiefaaGreat
set_option linter.unusedVariables false
set_option linter.unusedSimpArgs false
open Go.RowKit
def mul1 (s t : Tm) : Tm := (s.1 * t.1, List.zipWith (· + ·) s.2 t.2)
def mulT (A B : List Tm) : List Tm := A.flatMap fun s => B.map (mul1 s)
theorem mulT_take {A B : List Tm} {k : Nat} {s : Tm} (h : A[k]? = some s) : mulT (A.take (k + 1)) B = mulT (A.take k) B ++ B.map (mul1 s) := by
  unfold mulT
  rw [List.take_add_one, h, List.flatMap_append]; simp
theorem mulT_drop {A B : List Tm} {k : Nat} {s : Tm} (h : A[k]? = some s) : mulT (A.drop k) B = B.map (mul1 s) ++ mulT (A.drop (k + 1)) B := by
  rw [drop_at h]; rfl
theorem map_take1 {B : List Tm} {s t : Tm} {i : Nat} (h : B[i]? = some t) : (B.take (i + 1)).map (mul1 s) = (B.take i).map (mul1 s) ++ [mul1 s t] := by
  rw [List.take_add_one, h, List.map_append]; rfl
theorem map_drop1 {B : List Tm} {s t : Tm} {i : Nat} (h : B[i]? = some t) : (B.drop i).map (mul1 s) = mul1 s t :: (B.drop (i + 1)).map (mul1 s) := by
  rw [drop_at h]; rfl
theorem mulT_len (A B : List Tm) : (mulT A B).length = A.length * B.length := by
  unfold mulT
  induction A with
  | nil => simp
  | cons s A ih => rw [List.flatMap_cons, List.length_append, ih, List.length_map, List.length_cons, Nat.succ_mul]; omega
def mulE (va : Int) (A B : List Tm) : Int := if rightL va (mulT A B) = true then mkE va (mulT A B) else 20
def mulV (va : Int) (A B : List Tm) : Int := if rightL va (mulT A B) = true then mkV va (mulT A B) else 0
def mulL (va : Int) (A B : List Tm) : List Tm := if rightL va (mulT A B) = true then mkL va (mulT A B) else []
theorem rightL_cons (vars : Int) (t : Tm) (l : List Tm) : rightL vars (t :: l) = (rightT vars t.2 && rightL vars l) := rfl
theorem rightL_snoc {vars : Int} {l : List Tm} {t : Tm} (h : rightL vars l = true) (ht : rightT vars t.2 = true) : rightL vars (l ++ [t]) = true := rightL_app h (by rw [rightL_cons, ht]; rfl)
theorem zip_len {a b : List Int} {n : Nat} (h1 : a.length = n) (h2 : b.length = n) : (List.zipWith (· + ·) a b).length = n := by rw [List.length_zipWith]; omega
theorem zip_at {a b : List Int} {i : Nat} {x y : Int} (h1 : a[i]? = some x) (h2 : b[i]? = some y) : (List.zipWith (· + ·) a b)[i]? = some (x + y) := by
  rw [List.getElem?_zipWith, h1, h2]
theorem take_set_next {l m : List Int} {i : Nat} {x : Int} (h : l.take i = m.take i) (hi : i < l.length) (hx : m[i]? = some x) : (l.set i x).take (i + 1) = m.take (i + 1) := by
  rw [List.take_add_one, List.take_add_one, hx, List.take_set_of_le (Nat.le_refl _), h, List.getElem?_set_self hi]
theorem AtTP.getB {P : Nat → Prop} {w wr : World} {a : Option Addr} {ts : List Tm} (h : AtTP P w a ts) (hb : Below w.heap.size w wr) {k : Nat} (hk : k < ts.length) :
    ∃ (b off : Nat) (t : Tm) (ea : Option Addr) (en ec : Nat), a = some ⟨b, off, none⟩ ∧ Hid (ts[k]? = some t) ∧ wr.cell? ⟨b, off + k * 2, none⟩ = some (.int .u64 (t.1.toNat : Int)) ∧ wr.cell? ⟨b, off + k * 2 + 1, none⟩ = some (.slice ea en ec) ∧ Hid (TmH.of w ⟨t.1, ea, en, ec⟩ t) := by
  obtain ⟨hs, h1, h2, h3, _, h5⟩ := h
  obtain ⟨b, off, y, e, hy, hc⟩ := h1.get (k := k) (by omega)
  have ht : ts[k]? = some ts[k] := List.getElem?_eq_getElem hk
  have hq := h3 k y _ hy.out ht
  have c0 := hc 0 _ rfl
  have c1 := hc 1 _ rfl
  refine ⟨b, off, ts[k], y.a, y.n, y.k, e, hide ht, cell_later hb ?_, cell_later hb ?_, hide ?_⟩
  · rw [← hq.1]; simpa [Flat.n] using c0
  · simpa [Flat.n] using c1
  · exact ⟨rfl, hq.2⟩
set_option maxRecDepth 100000 in
set_option maxHeartbeats 12800000 in
theorem PMul_good (P Q : Nat → Prop) (va : Int) (a b : Option Addr) (n c m d : Nat) (A B : List Tm) (w : World) (h : TOut P w a n c A) (h' : TOut Q w b m d B) (hQA : checkP va A = true) (hQB : checkP va B = true) (V : Int) (L : List Tm) (E : Int) (hV : mulV va A B = V) (hL : mulL va A B = L) (hE : mulE va A B = E) :
    Calls Tryz.prog 162 #[.agg #[.int .i64 va, .slice a n c], .agg #[.int .i64 va, .slice b m d]] w (PolyOut V L E w) := by
  obtain ⟨hX1, hX2, hX3, hb0, hz0⟩ := three_boxes w 42 42 42 #[.int .i64 va, .slice a n c] #[.int .i64 va, .slice b m d] #[.int .i64 0, .slice none 0 0]
  obtain ⟨W0, hW0⟩ : ∃ W0, ((w.alloc (.cells #[.int .i64 va, .slice a n c] 42)).alloc (.cells #[.int .i64 va, .slice b m d] 42)).alloc (.cells #[.int .i64 0, .slice none 0 0] 42) = W0 := ⟨_, rfl⟩
  rw [hW0] at hX1 hX2 hX3 hb0 hz0
  have hokA := checkP_ok hQA
  have hokB := checkP_ok hQB
  have hn4 : n ≤ 4096 := by rw [h.len]; exact hokA.len
  have hm4 : m ≤ 4096 := by rw [h'.len]; exact hokB.len
  have HCA := hide (Check_calls va a n c A h.len W0 (h.at_.at_.belowN hb0) (by omega) hokA.len6 true hQA)
  have HCB := hide (fun (W : World) (k : Below W0.heap.size W0 W) => Check_calls va b m d B h'.len W ((h'.at_.at_.belowN hb0).belowN k) (by omega) hokB.len6 true hQB)
  obtain ⟨p0, p1, p2, p3⟩ := hX1.c2
  obtain ⟨q0, q1, q2, q3⟩ := hX2.c2
  have HW0 := hide hW0
  have e1 : (va != va) = false := by simp
  have e2 : (va == va) = true := by simp
  have hatA := h.at_.belowN hb0
  have hatB := h'.at_.belowN hb0
  have HN := hide h.len
  have HM := hide h'.len
  have HOA := hide hokA
  have HOB := hide hokB
  have HV := hide hV
  have HL := hide hL
  have HE := hide hE
  obtain ⟨vn, hvn⟩ : ∃ vn : Nat, va = vn := ⟨va.toNat, by have := hokA.v; omega⟩
  have hv64 : vn ≤ 64 := by have := hokA.n64; omega
  subst hvn
  have HH := hide (fun W => Heap_calls vn (vn : Int) W)
  obtain ⟨R, hR⟩ : ∃ R, rightL (vn : Int) (mulT A B) = R := ⟨_, rfl⟩
  have HR := hide hR
  have HR0 : Hid (rightL (vn : Int) (mulT (A.drop 0) B) = R) := hR
  have HP0 : Hid (rightL (vn : Int) (mulT (A.take 0) B) = true) := rfl
  clear hQA hQB h h' hW0 hokA hokB hV hL hE hR
  go_enter Tryz.func162, Tryz.ntmps162
  go_wp2_with (first
    | (have hgd := hb1; go_at_call 49; go_must ((with_reducible refine (HCB.out _ hb1).mono ?_); rintro v w2 ⟨rfl, hb2⟩; have hB2 := hb1.trans (hb2.mono hb1.size); have hX5 := hX3.belowN hB2; obtain ⟨r0, r1, r2, r3⟩ := (hX1.belowN hB2).c2; obtain ⟨s0, s1, s2, s3⟩ := (hX2.belowN hB2).c2))
    | (go_at_call 49; go_must ((rw [HW0.out]); (with_reducible refine (HCA.out).mono ?_); rintro v w1 ⟨rfl, hb1⟩; obtain ⟨s0, s1, s2, s3⟩ := (hX2.belowN hb1).c2))
    | (go_at_call 73; go_must ((with_reducible refine (HH.out _).mono ?_); rintro v w3 ⟨rfl, hH3, hb3⟩; have hB3 := hB2.trans (hb3.mono hB2.size); obtain ⟨t0, t1, t2, t3⟩ := (hX1.belowN hB3).c2))
    | (at_make; go_must (refine wpList_mk tyI03 (B := w3.heap.size) (n := vn) rfl rfl rfl rfl rfl rfl (Nat.le_refl _) (by omega) ?_; intro w4 hown4 hg4; have hb4 := below_of_grown hg4; have hB4 := hB3.trans (hb4.mono hB3.size); obtain ⟨u0, u1, u2, u3⟩ := (hX1.belowN hB4).c2)))
  obtain ⟨g, hg⟩ : ∃ g, g = w2.heap.size := ⟨_, rfl⟩
  obtain ⟨ge, hge⟩ : ∃ ge, ge = w3.heap.size := ⟨_, rfl⟩
  rw [← hg] at hH3 ⊢
  rw [← hge] at hown4 ⊢
  have hgge : g + 2 < ge := by rw [hge]; exact hH3.lt
  have hH4 := hH3.belowN hb4
  have hb24 : Below g w2 w4 := by rw [hg]; exact hb3.trans (hb4.mono hb3.size)
  have hgw : w.heap.size + 1 + 1 < g := by rw [hg]; exact hX5.lt
  have hBz := hb0.trans (hB2.mono hb0.size)
  have hA2 := hatA.belowN hB2
  have hBB2 := hatB.belowN hB2
  have hY1 := hX1.belowN hB2
  have hY2 := hX2.belowN hB2
  have hge4 : ge < w4.heap.size := by have := hown4.blk ge rfl; omega
  have HG := hide hg
  clear hg hge hB4 hB3 hb3 hb4 hg4 hH3 HH HCA HCB hatA hatB hX1 hX2 hX3 hgd
  go_loopw [42] (fun iv wr => ∃ (k : Nat) (l : List Int), iv = .int .i64 k ∧ k ≤ n ∧ Hid (rightL (vn : Int) (mulT (A.drop k) B) = R) ∧ Hid (rightL (vn : Int) (mulT (A.take k) B) = true) ∧ HeapT wr g (vn : Int) vn (mulT (A.take k) B) ∧ l.length = vn ∧ Own wr ge 3 (some ⟨ge, 0, none⟩) vn l ∧ Below g w2 wr) (fun iv _ => n - (intOf iv).toNat)
  case atStart => exact ⟨0, _, rfl, by omega, HR0.out, HP0.out, hH4, by simp, hown4, hb24⟩
  case round =>
    obtain ⟨k, l, rfl, hk, hRk, hPk, hH, hll, hown, hbr⟩ := hrel
    have hbX : Below w2.heap.size w2 wr := hbr.mono (by rw [HG.out]; exact Nat.le_refl _)
    have hzr := hH.lt
    have hger := (hown.blk ge rfl).2
    have hXr := hX5.belowN hbX
    have hBr := hBz.trans (hbX.mono hBz.size)
    obtain ⟨x0, x1, x2, x3⟩ := hXr.c2
    by_cases hlt : k < n
    · obtain ⟨b1, off1, t, ea, en, ec, rfl, ht, t0, t1, hrow⟩ := hA2.getB hbX (k := k) (by rw [← HN.out]; exact hlt)
      have hk0 : (0 : Int) ≤ (k : Int) := by omega
      have hk1 : (k : Int) < (n : Int) := by omega
      have hen : en = t.2.length := hrow.out.2.1
      have hrt := HOA.out.rt t (List.mem_of_getElem? ht.out)
      have hlen := rightT_len hrt
      have henv : en = vn := by omega
      have hin := rightT_in hrt
      have HIN := hide hin
      subst henv
      have hRk2 := hRk.out
      rw [mulT_drop ht.out] at hRk2
      have HRK2 : Hid (rightL (en : Int) ((B.drop 0).map (mul1 t) ++ mulT (A.drop (k + 1)) B) = R) := hRk2
      have HTA := hide (mulT_take (B := B) ht.out)
      have hPs : Hid (rightL (en : Int) (mulT (A.take k) B ++ (B.take 0).map (mul1 t)) = true) := by
        show _ = _
        rw [List.take_zero, List.map_nil, List.append_nil]; exact hPk.out
      have hbx := below_box wr (.cells #[.int .u64 (t.1.toNat : Int), .slice ea en ec] 92)
      have hT := Blk.new wr 92 #[.int .u64 (t.1.toNat : Int), .slice ea en ec]
      have hHs : HeapT (wr.alloc (.cells #[.int .u64 (t.1.toNat : Int), .slice ea en ec] 92)) g (en : Int) en (mulT (A.take k) B ++ (B.take 0).map (mul1 t)) := by
        rw [List.take_zero, List.map_nil, List.append_nil]; exact hH.belowN hbx
      obtain ⟨bs, hbs⟩ : ∃ bs, bs = wr.heap.size := ⟨_, rfl⟩
      have hgebs : ge < bs := by rw [hbs]; exact hger
      have hbxg : Below g w2 (wr.alloc (.cells #[.int .u64 (t.1.toNat : Int), .slice ea en ec] 92)) := hbr.alloc (by omega) _
      obtain ⟨s4, s5, s6, s7⟩ := ((hY2.belowN hbX).belowN hbx).c2
      have HLA := hide (show (mulT (A.take k) B).length + m ≤ 16777216 by
        rw [mulT_len, List.length_take, ← HN.out, ← HM.out, Nat.min_eq_left (by omega)]
        have : (k + 1) * m ≤ 4096 * 4096 := Nat.mul_le_mul (by omega) hm4
        rw [Nat.succ_mul] at this
        omega)
      have hea := hrow.out.2.2.2.2
      have HT := hide hT
      obtain ⟨wo, rfl⟩ : ∃ wo : World, wo = wr := ⟨_, rfl⟩
      clear ht hen hlen hrt hRk2 hin hH hT
      go_wp2
      rw [← hbs]
      have hT1 : Blk (wo.alloc (.cells #[.int .u64 (t.1.toNat : Int), .slice ea en ec] 92)) bs 92 #[.int .u64 (t.1.toNat : Int), .slice ea en ec] := by rw [hbs]; exact HT.out
      have HBS := hide hbs
      have hown1 := hown.alloc (.cells #[.int .u64 (t.1.toNat : Int), .slice ea en ec] 92)
      clear hbs HT
      go_loopw [49] (fun jv wi => ∃ (i : Nat) (l : List Int), jv = .int .i64 i ∧ i ≤ m ∧ Hid (rightL (en : Int) ((B.drop i).map (mul1 t) ++ mulT (A.drop (k + 1)) B) = R) ∧ Hid (rightL (en : Int) (mulT (A.take k) B ++ (B.take i).map (mul1 t)) = true) ∧ HeapT wi g (en : Int) en (mulT (A.take k) B ++ (B.take i).map (mul1 t)) ∧ l.length = en ∧ Own wi ge 3 (some ⟨ge, 0, none⟩) en l ∧ Blk wi bs 92 #[.int .u64 (t.1.toNat : Int), .slice ea en ec] ∧ Below g w2 wi) (fun jv _ => m - (intOf jv).toNat)
      case atStart => exact ⟨0, l, rfl, by omega, HRK2.out, hPs.out, hHs, hll, hown1, hT1, hbxg⟩
      case round =>
        obtain ⟨i, l, rfl, hi, hRi, hPi, hH, hll, hown, hT, hbr⟩ := hrel
        have hbX : Below w2.heap.size w2 wr := hbr.mono (by rw [HG.out]; exact Nat.le_refl _)
        have hzr := hH.lt
        have hbsr := hT.lt
        obtain ⟨c0, c1, c2, c3⟩ := hT.c2
        by_cases hlt : i < m
        · obtain ⟨b2, off2, s, fa, fn, fc, rfl, hs, s0, s1, hrowS⟩ := hBB2.getB hbX (k := i) (by rw [← HM.out]; exact hlt)
          have hi0 : (0 : Int) ≤ (i : Int) := by omega
          have hi1 : (i : Int) < (m : Int) := by omega
          have hfn : fn = s.2.length := hrowS.out.2.1
          have hrts := HOB.out.rt s (List.mem_of_getElem? hs.out)
          have hlens := rightT_len hrts
          have hfnv : fn = en := by omega
          have HINS := hide (rightT_in hrts)
          subst hfnv
          have hRi2 := hRi.out
          rw [map_drop1 hs.out, List.cons_append, rightL_cons] at hRi2
          have HBT := hide (map_take1 (s := t) hs.out)
          obtain ⟨bt, hbt⟩ : ∃ bt, bt = wr.heap.size := ⟨_, rfl⟩
          have hbx := below_box wr (.cells #[.int .u64 (s.1.toNat : Int), .slice fa fn fc] 92)
          have hSB := Blk.new wr 92 #[.int .u64 (s.1.toNat : Int), .slice fa fn fc]
          rw [← hbt] at hSB
          have hbsbt : bs < bt := by rw [hbt]; exact hbsr
          have hHs := hH.belowN hbx
          have hTs := hT.belowN hbx
          have hown1 := hown.belowN hbx
          have hbxg : Below g w2 (wr.alloc (.cells #[.int .u64 (s.1.toNat : Int), .slice fa fn fc] 92)) := hbr.alloc (by omega) _
          have hfa := hrowS.out.2.2.2.2
          obtain ⟨Z, hZ⟩ : ∃ Z, List.zipWith (· + ·) t.2 s.2 = Z := ⟨_, rfl⟩
          have hea6 : t.2.length = fn := by have := hrow.out.2.1; exact this.symm
          have hZl : Z.length = fn := by rw [← hZ]; exact zip_len hea6 hfn.symm
          have HZ := hide hZ
          have HZL := hide hZl
          have HS := hide hs.out
          have HFN := hide hfn
          have HEA6 := hide hea6
          have HBTE := hide hbt
          obtain ⟨wi, rfl⟩ : ∃ wi : World, wi = wr := ⟨_, rfl⟩
          clear hs hfn hlens hrts hH hT hZ hZl hea6
          go_wp2
          rw [← hbt]
          clear hbt
          go_loopw [55] (fun pv wp => ∃ (p : Nat) (l : List Int), pv = .int .i64 p ∧ p ≤ fn ∧ Hid (l.take p = Z.take p) ∧ HeapT wp g (fn : Int) fn (mulT (A.take k) B ++ (B.take i).map (mul1 t)) ∧ l.length = fn ∧ Own wp ge 3 (some ⟨ge, 0, none⟩) fn l ∧ Blk wp bs 92 #[.int .u64 (t.1.toNat : Int), .slice ea fn ec] ∧ Blk wp bt 92 #[.int .u64 (s.1.toNat : Int), .slice fa fn fc] ∧ Below g w2 wp) (fun pv _ => fn - (intOf pv).toNat)
          case atStart => exact ⟨0, l, rfl, by omega, rfl, hHs, hll, hown1, hTs, hSB, hbxg⟩
          case round =>
            obtain ⟨p, l, rfl, hp, hpl, hH, hll, hown, hT, hSB, hbr⟩ := hrel
            have hbX : Below w2.heap.size w2 wr := hbr.mono (by rw [HG.out]; exact Nat.le_refl _)
            have hzr := hH.lt
            obtain ⟨c0, c1, c2, c3⟩ := hT.c2
            obtain ⟨d0, d1, d2, d3⟩ := hSB.c2
            by_cases hlt : p < fn
            · obtain ⟨b3, off3, x, rfl, hx, y0⟩ := hea.getI hbX (k := p) (by rw [HEA6.out]; exact hlt)
              obtain ⟨b4, off4, y, rfl, hy, y1⟩ := hfa.getI hbX (k := p) (by rw [← HFN.out]; exact hlt)
              have hp0 : (0 : Int) ≤ (p : Int) := by omega
              have hp1 : (p : Int) < (fn : Int) := by omega
              have hxr := HIN.out x (List.mem_of_getElem? hx.out)
              have hyr := HINS.out y (List.mem_of_getElem? hy.out)
              have hZp : Z[p]? = some (x + y) := by rw [← HZ.out]; exact zip_at hx.out hy.out
              have hfz := hown.frozen p
              obtain ⟨z, zu, hz1, hz2, hz3⟩ := hown.cell1 (i := p) (by omega) rfl
              have hzu : zu = .int .i64 z := by simpa [Flat.enc] using hz2.symm
              subst hzu
              have hown2 := (hown.drew).set1 p (x + y) (.int .i64 (x + y)) rfl
              have HT2 := hide (take_set_next hpl.out (by omega) hZp)
              clear hx hy hz1 hz2 hZp
              go_wp2
              go_region
              go_wp2
              go_roundw
              case rel => exact ⟨p + 1, _, by go_num, by omega, HT2.out, (hH.belowN (below_drawn _ _ 1)).grown (grown_setCell _ ge p _) (fun j hj => by cases hj; omega), by simpa using hll, hown2, (hT.drewN 1).far (p := ⟨ge, p, none⟩) (by simp; omega) _, (hSB.drewN 1).far (p := ⟨ge, p, none⟩) (by simp; omega) _, (hbr.trans (below_drawn _ _ 1)).setCell (p := ⟨ge, p, none⟩) (by show g ≤ ge; omega) _⟩
              case measure => simp [intOf]; omega
            · obtain rfl : p = fn := by omega
              have hlZ : l = Z := by
                have := hpl.out
                rw [List.take_of_length_le (by omega), List.take_of_length_le (by rw [HZL.out]; exact Nat.le_refl _)] at this
                exact this
              subst hlZ
              obtain ⟨v0, v1, v2, v3⟩ := (hY1.belowN hbX).c2
              have hXr := hX5.belowN hbX
              obtain ⟨x0, x1, x2, x3⟩ := hXr.c2
              have hBr := hBz.trans (hbX.mono hBz.size)
              obtain ⟨R1, hR1⟩ : ∃ R1, rightT (p : Int) l = R1 := ⟨_, rfl⟩
              have HRC := hide (PRight_calls (p : Int) (some ⟨ge, 0, none⟩) p p l hll.symm wr hown.at_ (by omega) R1 hR1)
              have hmt : (mul1 t s).2 = l := HZ.out
              rw [hmt, hR1] at hRi2
              cases R1 with
              | false =>
                have hQF : R = false := by rw [← hRi2]; rfl
                have hV := HV.out
                have hL := HL.out
                have hE := HE.out
                unfold mulV at hV
                unfold mulL at hL
                unfold mulE at hE
                rw [HR.out, hQF] at hV hL hE
                rw [if_neg (by decide)] at hV hL hE
                subst hV hL hE
                clear hRi2 hR1 hmt hpl hQF
                go_wp2_with (go_at_call 99; go_must ((with_reducible refine (HRC.out).mono ?_); rintro v w5 ⟨rfl, rfl⟩))
                have hF6 := (hXr.set_ 0 (.int .i64 0)).set_ 1 (.slice none 0 0)
                refine bodyPost_ret (results_rowP rfl _ _ (w.heap.size + 1 + 1) _ #[.int .i64 0, .slice none 0 0] (0, 0) _ rfl hF6 Tryz.underlying42 rfl (by kernel_rfl)) rfl ?_
                exact PolyOut.bad _ _ _ ((hBr.setCell (p := ⟨w.heap.size + 1 + 1, 0, none⟩) (by show _ ≤ w.heap.size + 1 + 1; omega) (.int .i64 0)).setCell (p := ⟨w.heap.size + 1 + 1, 1, none⟩) (by show _ ≤ w.heap.size + 1 + 1; omega) (.slice none 0 0))
              | true =>
                rw [Bool.true_and] at hRi2
                have HRi2 := hide hRi2
                have HPi2 := hide (rightL_snoc (t := mul1 t s) hPi.out (by rw [hmt]; exact hR1))
                have HLB := hide (show (mulT (A.take k) B ++ (B.take i).map (mul1 t)).length ≤ 16777216 by
                  have h1 := HLA.out
                  rw [List.length_append, List.length_map, List.length_take, ← HM.out, Nat.min_eq_left (by omega)]
                  omega)
                have HPT := hide (Put_calls wr g (p : Int) p _ hH (by have := HLB.out; omega) (mul1 t s) (some ⟨ge, 0, none⟩) p p (by rw [hmt, hll]) (by rw [hmt]; exact hll) (by omega) (by rw [hmt]; exact rightT_in hR1) (by rw [hmt]; exact hown.at_))
                have HMU := hide (show IntKind.u64.wrap ((t.1.toNat : Int) * (s.1.toNat : Int)) = ((mul1 t s).1.toNat : Int) from u64_mul t.1 s.1)
                clear hRi2 hR1 hmt hpl
                go_wp2_with (first
                  | (go_at_call 99; go_must ((with_reducible refine (HRC.out).mono ?_); rintro v w5 ⟨rfl, rfl⟩))
                  | (go_at_call 117; go_must ((rw [HMU.out]); (with_reducible refine (HPT.out).mono ?_); rintro v w6 ⟨rfl, hH6, hg6⟩)))
                go_roundw
                case rel =>
                  refine ⟨i + 1, l, by go_num, by omega, HRi2.out, by rw [HBT.out, ← List.append_assoc]; exact HPi2.out, by rw [HBT.out, ← List.append_assoc]; exact hH6, hll, hown.grown hg6 (.inr (by simp; omega)), hT.grown hg6 (by simp; omega), hbr.grown hg6 (by omega) (fun j hj => by cases hj; omega)⟩
                case measure => simp [intOf]; omega
        · obtain rfl : i = m := by omega
          have hRi2 := hRi.out
          have hPi2 := hPi.out
          rw [List.drop_eq_nil_of_le (by rw [← HM.out]; exact Nat.le_refl _), List.map_nil, List.nil_append] at hRi2
          rw [show B.take i = B from List.take_of_length_le (by rw [← HM.out]; exact Nat.le_refl _)] at hPi2 hH
          rw [← HTA.out] at hPi2 hH
          have HRi2 := hide hRi2
          have HPi2 := hide hPi2
          clear hRi2 hPi2
          go_wp2
          go_roundw
          case rel => exact ⟨k + 1, l, by go_num, by omega, HRi2.out, HPi2.out, hH, hll, hown, hbr⟩
          case measure => simp [intOf]; omega
    · obtain rfl : k = n := by omega
      have hP2 := hPk.out
      have htk : A.take k = A := List.take_of_length_le (by rw [← HN.out]; exact Nat.le_refl _)
      rw [htk] at hP2 hH
      obtain ⟨q1, q2, q3⟩ := mk_ok HOA.out.range hP2
      have hV := HV.out
      have hL := HL.out
      have hE := HE.out
      unfold mulV at hV
      unfold mulL at hL
      unfold mulE at hE
      rw [if_pos hP2] at hV hL hE
      have hml : (mulT A B).length ≤ 16777216 := by
        rw [mulT_len, ← HN.out, ← HM.out]
        exact Nat.mul_le_mul hn4 hm4
      have hlt2 := LenT.of_right (List.all_eq_true.1 hP2)
      rw [Int.toNat_natCast] at hlt2
      have HA := hide (All_calls wr g (vn : Int) vn (mulT A B) hH (by omega) hlt2 (rightL_in hP2) (by omega) V L E (by rw [← q2, hV]) (by rw [← q3, hL]) (by rw [← q1, hE]))
      clear hP2 q1 q2 q3 htk hV hL hE hml hlt2
      go_wp2_with (go_at_call 119; go_must ((with_reducible refine (HA.out).mono ?_); rintro v w6 ⟨a6, n6, c6, rfl, hT6, hb6⟩; have hX6 := hXr.belowN hb6; obtain ⟨y0, y1, y2, y3⟩ := hX6.c2))
      have hF6 := (hX6.set_ 0 (.int .i64 V)).set_ 1 (.slice a6 n6 c6)
      refine bodyPost_ret (results_rowP rfl _ _ (w.heap.size + 1 + 1) _ #[.int .i64 V, .slice a6 n6 c6] (0, 0) _ rfl hF6 Tryz.underlying42 rfl (by kernel_rfl)) rfl ?_
      exact PolyOut.stored (hBr.trans (hb6.mono hBr.size)) hT6 (by omega) hXr.lt hBr.size
end Go.Proofs.YtcamcnahkdiefaaGreat

/- Products: the document's. -/
namespace Go.Proofs.YtcamcnahkdiefaaGreat
set_option linter.unusedVariables false
set_option linter.unusedSimpArgs false
open Go.RowKit
end Go.Proofs.YtcamcnahkdiefaaGreat

/- Several texts of mine in one file: W3a, Pl, Pl2. -/
/- Chapter 3: what comes out is small; the page's example. -/
namespace Go.Proofs.YtcamcnahkdiefaaGreat
set_option linter.unusedVariables false
set_option linter.unusedSimpArgs false
open Go.RowKit
structure OutOk (L : List Tm) : Prop where
  len : L.length ≤ 4096
  exp : ∀ t ∈ L, t.2.length ≤ 64
theorem OutOk.nil : OutOk [] := ⟨by decide, fun t ht => by simp at ht⟩
end Go.Proofs.YtcamcnahkdiefaaGreat

/- Plain: sums, products and derivatives by any weights. -/
namespace Go.Proofs.YtcamcnahkdiefaaGreat
set_option linter.unusedVariables false
set_option linter.unusedSimpArgs false
theorem InE.getD {e : List Int} (h : InE e) (i : Nat) : 0 ≤ e.getD i 0 := by
  by_cases hi : i < e.length
  · have : e.getD i 0 ∈ e := by rw [List.getD_eq_getElem?_getD, List.getElem?_eq_getElem hi]; exact List.getElem_mem hi
    exact (h _ this).1
  · rw [List.getD_eq_getElem?_getD, List.getElem?_eq_none (by omega)]; exact Int.le_refl _
theorem chk_of_canon {vars : Int} {n : Nat} : ∀ (pr : Option (List Int)) (l : List Tm), Canon n l → (∀ t ∈ l, rightT vars t.2 = true) → (∀ e, pr = some e → ∀ t ∈ l, ordR e t.2 < 0) → chkT vars pr l = true
  | pr, [], _, _, _ => by cases pr <;> rfl
  | pr, t :: l, hc, hr, hp => by
    have h1 : (t.1 != 0) = true := by simpa using hc.nz t List.mem_cons_self
    have h2 := hr t List.mem_cons_self
    have h3 : okPrev pr t.2 = true := by
      cases pr with
      | none => rfl
      | some e => exact decide_eq_true (hp e rfl t List.mem_cons_self)
    have h4 := chk_of_canon (some t.2) l hc.tail (fun s hs => hr s (List.mem_cons_of_mem _ hs)) (fun e he s hs => by
      injection he with he
      rw [← he]
      exact (List.pairwise_cons.1 hc.srt).1 s hs)
    rw [chkT, h1, h2, h3, h4]; rfl
theorem mem_sort {n : Nat} (l : List Tm) (h : LenT n l) : ∀ t ∈ sortT l, ∃ s ∈ l, s.2 = t.2 := by
  intro t ht
  refine Decidable.byContradiction fun hn => ?_
  have h0 : ∀ s ∈ l, s.2 ≠ t.2 := fun s hs e => hn ⟨s, hs, e⟩
  have h1 := lin_sort (dlt t.2) l h
  rw [lin_dlt_out t.2 l h0, lin_dlt_mem (sortT_canon l h) t ht] at h1
  exact (sortT_canon l h).nz t ht h1
theorem right_sort {vars : Int} {l : List Tm} (h : rightL vars l = true) : rightL vars (sortT l) = true := by
  refine List.all_eq_true.2 fun t ht => ?_
  obtain ⟨s, hs, e⟩ := mem_sort l (rightL_len h) t ht
  rw [← e]
  exact List.all_eq_true.1 h s hs
theorem mk_of_ok {vars : Int} {l : List Tm} (hv : ¬ (vars < 0 ∨ 64 < vars)) (hr : rightL vars l = true) (hl : (sortT l).length ≤ 4096) : mkE vars l = 0 ∧ mkV vars l = vars ∧ mkL vars l = sortT l := by
  have e : mkE vars l = 0 := by unfold mkE; rw [if_neg hv, if_neg (by rw [hr]; decide), if_neg (by omega)]
  exact ⟨e, by unfold mkV; rw [e]; rfl, by unfold mkL; rw [e]; rfl⟩
theorem check_sort {vars : Int} {l : List Tm} (hv : ¬ (vars < 0 ∨ 64 < vars)) (hr : rightL vars l = true) (hl : (sortT l).length ≤ 4096) : checkP vars (sortT l) = true := by
  unfold checkP
  rw [decide_eq_true (show 0 ≤ vars by omega), decide_eq_true (show vars ≤ 64 by omega), decide_eq_true hl, chk_of_canon none _ (sortT_canon l (rightL_len hr)) (List.all_eq_true.1 (right_sort hr)) (fun e he => by cases he)]
  rfl
theorem mk_ok0 {vars : Int} {l : List Tm} (h : mkE vars l = 0) : mkV vars l = vars ∧ mkL vars l = sortT l ∧ rightL vars l = true ∧ ¬ (vars < 0 ∨ 64 < vars) ∧ (sortT l).length ≤ 4096 ∧ checkP vars (sortT l) = true := by
  have h0 := h
  unfold mkE at h
  split at h
  · cases h
  · rename_i hv
    split at h
    · cases h
    · rename_i hr
      split at h
      · cases h
      · rename_i hl
        have hr' : rightL vars l = true := by simpa using hr
        exact ⟨by unfold mkV; rw [h0]; rfl, by unfold mkL; rw [h0]; rfl, hr', hv, by omega, check_sort hv hr' (by omega)⟩
end Go.Proofs.YtcamcnahkdiefaaGreat

/- Plain: the derivative of a product. -/
namespace Go.Proofs.YtcamcnahkdiefaaGreat
set_option linter.unusedVariables false
set_option linter.unusedSimpArgs false
end Go.Proofs.YtcamcnahkdiefaaGreat

/- Several texts of mine in one file: Sya, Syb, Syc. -/
/- symbol.reckon and the document's does: what an operation makes of two polynomials. -/
namespace Go.Proofs.YtcamcnahkdiefaaGreat
set_option linter.unusedVariables false
set_option linter.unusedSimpArgs false
open Go.RowKit
theorem AtTP.grown {P : Nat → Prop} {w w' : World} {a : Option Addr} {ts : List Tm} {row : Option Nat} (h : AtTP P w a ts) (hgr : w.grownBy w' row) (hg : ∀ g, row = some g → ¬ P g) : AtTP P w' a ts := by
  obtain ⟨hs, h1, h2, h3, h4, h5⟩ := h
  cases row with
  | none => exact ⟨hs, h1.grown hgr (fun _ => .inr rfl), h2, fun j y t e1 e2 => by obtain ⟨k1, k2, k3, k4, k5⟩ := h3 j y t e1 e2; exact ⟨k1, k2, k3, k4, k5.grown hgr (fun _ => .inr rfl)⟩, h4, h5⟩
  | some g =>
    refine ⟨hs, h1.grown hgr (fun hne => ?_), h2, fun j y t e1 e2 => ?_, h4, h5⟩
    · have htn : ts ≠ [] := by rintro rfl; exact hne (List.eq_nil_of_length_eq_zero h2)
      refine .inl fun e' => hg g rfl (h4 htn g e')
    · obtain ⟨k1, k2, k3, k4, k5⟩ := h3 j y t e1 e2
      refine ⟨k1, k2, k3, k4, k5.grown hgr (fun hne => ?_)⟩
      refine .inl fun e' => hg g rfl (h5 j y t e1 e2 hne g e')
theorem AtTP.bounded {P : Nat → Prop} {w : World} {a : Option Addr} {ts : List Tm} (h : AtTP P w a ts) : AtTP (fun q => P q ∧ q < w.heap.size) w a ts := by
  obtain ⟨hs, h1, h2, h3, h4, h5⟩ := h
  refine ⟨hs, h1, h2, h3, fun hne q e => ⟨h4 hne q e, ?_⟩, fun i y t e1 e2 hne q e => ⟨h5 i y t e1 e2 hne q e, ?_⟩⟩
  · obtain ⟨b, off, e', hb⟩ := h1.lt (by rintro rfl; exact hne (List.eq_nil_of_length_eq_zero h2.symm))
    rw [e'] at e; simp at e; omega
  · obtain ⟨b, off, e', hb⟩ := (h3 i y t e1 e2).2.2.2.2.lt hne
    rw [e'] at e; simp at e; omega
theorem TOut.grown {P : Nat → Prop} {w w' : World} {a : Option Addr} {n c : Nat} {M : List Tm} {row : Option Nat} (h : TOut P w a n c M) (hgr : w.grownBy w' row) (hg : ∀ g, row = some g → ¬ P g) : TOut P w' a n c M := ⟨h.len, h.cap, h.max, h.at_.grown hgr hg⟩
theorem TOut.bounded {P : Nat → Prop} {w : World} {a : Option Addr} {n c : Nat} {M : List Tm} (h : TOut P w a n c M) : TOut (fun q => P q ∧ q < w.heap.size) w a n c M := ⟨h.len, h.cap, h.max, h.at_.bounded⟩
def symE (va k : Int) (v : UInt64) (A B : List Tm) : Int :=
  if k = 1 then mkE va (A ++ B) else if k = 2 then mkE va (A ++ sortT (negT B)) else if k = 3 then mulE va A B else if k = 4 then mkE va (negT A) else if k = 5 then mkE va (constT va v) else 0
def symV (va k : Int) (v : UInt64) (A B : List Tm) : Int :=
  if k = 1 then mkV va (A ++ B) else if k = 2 then mkV va (A ++ sortT (negT B)) else if k = 3 then mulV va A B else if k = 4 then mkV va (negT A) else if k = 5 then mkV va (constT va v) else va
def symL (va k : Int) (v : UInt64) (A B : List Tm) : List Tm :=
  if k = 1 then mkL va (A ++ B) else if k = 2 then mkL va (A ++ sortT (negT B)) else if k = 3 then mulL va A B else if k = 4 then mkL va (negT A) else if k = 5 then mkL va (constT va v) else A
theorem checkP_len {va : Int} {A : List Tm} (h : checkP va A = true) : A.length ≤ 1000000 ∧ ∀ t ∈ A, t.2.length ≤ 1000000 := by
  have h' := (checkP_ok h).len6
  refine ⟨?_, h'⟩
  unfold checkP at h
  simp only [Bool.and_eq_true, decide_eq_true_eq] at h
  omega
def PolyAny (P : Nat → Prop) (V : Int) (L : List Tm) (E : Int) (w : World) (e : Ending) (w' : World) : Prop :=
  ∃ a n c, e = .returned (.tuple #[.agg #[.int .i64 V, .slice a n c], .int .i64 E]) ∧ TOut (fun q => P q ∨ w.heap.size ≤ q) w' a n c L ∧ Below w.heap.size w w'
theorem PolyOut.any {V : Int} {L : List Tm} {E : Int} {w w' : World} {e : Ending} (P : Nat → Prop) (h : PolyOut V L E w e w') : PolyAny P V L E w e w' := by
  obtain ⟨a, n, c, rfl, h1, h2⟩ := h
  exact ⟨a, n, c, rfl, h1.imp fun q hq => .inr hq, h2⟩
theorem neg_facts {va : Int} {B : List Tm} (h : checkP va B = true) : mkE va (negT B) = 0 ∧ mkV va (negT B) = va ∧ mkL va (negT B) = sortT (negT B) ∧ checkP va (sortT (negT B)) = true := by
  have k := checkP_ok h
  have hr := negT_right k.right
  have hl : (sortT (negT B)).length ≤ 4096 := Nat.le_trans (sort_len _) (by rw [negT_len]; exact k.len)
  obtain ⟨e1, e2, e3⟩ := mk_of_ok k.range hr hl
  exact ⟨e1, e2, e3, check_sort k.range hr hl⟩
set_option maxRecDepth 100000 in
set_option maxHeartbeats 3200000 in
theorem Reckon_add (gb : Nat) (d0 a0 b0 : Int) (v : UInt64) (P Q : Nat → Prop) (va : Int) (a b : Option Addr) (n c m d : Nat) (A B : List Tm) (w : World) (h : TOut P w a n c A) (h' : TOut Q w b m d B) (hQA : checkP va A = true) (hQB : checkP va B = true) (V : Int) (L : List Tm) (E : Int) (hV : mkV va (A ++ B) = V) (hL : mkL va (A ++ B) = L) (hE : mkE va (A ++ B) = E) :
    Calls Tryz.prog 129 #[.pointer (some ⟨gb, 0, none⟩), .agg #[.int .i64 1, .int .i64 d0, .int .i64 a0, .int .i64 b0, .int .u64 (v.toNat : Int)], .agg #[.int .i64 va, .slice a n c], .agg #[.int .i64 va, .slice b m d]] w (PolyOut V L E w) := by
  obtain ⟨hX1, hX2, hX3, hX4, hb0, hz0⟩ := four_boxes w 89 42 42 42 #[.int .i64 1, .int .i64 d0, .int .i64 a0, .int .i64 b0, .int .u64 (v.toNat : Int)] #[.int .i64 va, .slice a n c] #[.int .i64 va, .slice b m d] #[.int .i64 0, .slice none 0 0]
  obtain ⟨W0, hW0⟩ : ∃ W0, ((((w.alloc (.cells #[.int .i64 1, .int .i64 d0, .int .i64 a0, .int .i64 b0, .int .u64 (v.toNat : Int)] 89)).alloc (.cells #[.int .i64 va, .slice a n c] 42)).alloc (.cells #[.int .i64 va, .slice b m d] 42)).alloc (.cells #[.int .i64 0, .slice none 0 0] 42)) = W0 := ⟨_, rfl⟩
  rw [hW0] at hX1 hX2 hX3 hX4 hb0 hz0
  obtain ⟨o0, o1, o2, o3, o4, o5, o6, o7, o8, o9⟩ := hX1.c5
  obtain ⟨p0, p1, p2, p3⟩ := hX2.c2
  obtain ⟨q0, q1, q2, q3⟩ := hX3.c2
  have HW0 := hide hW0
  have HA := hide (PAdd_good P Q va a b n c m d A B W0 (h.belowN hb0) (h'.belowN hb0) hQA hQB V L E hV hL hE)
  clear hW0 hQA hQB h h' hV hL hE
  go_enter Tryz.func129, Tryz.ntmps129
  go_wp2_with (go_at_call 160; go_must ((rw [HW0.out]); (with_reducible refine (HA.out).mono ?_); rintro vv w9 ⟨a9, n9, c9, rfl, hT9, hb9⟩; have hX9 := hX4.belowN hb9; obtain ⟨x0, x1, x2, x3⟩ := hX9.c2))
  have hB9 := hb0.trans (hb9.mono hb0.size)
  have hg9 : w.heap.size + 1 + 1 + 1 < W0.heap.size := by omega
  have hs9 := hb0.size
  have hF6 := (hX9.set_ 0 (.int .i64 V)).set_ 1 (.slice a9 n9 c9)
  refine bodyPost_ret (results_rowP rfl _ _ (w.heap.size + 1 + 1 + 1) _ #[.int .i64 V, .slice a9 n9 c9] (0, 0) _ rfl hF6 Tryz.underlying42 rfl (by kernel_rfl)) rfl ?_
  exact PolyOut.stored hB9 hT9 (by omega) hg9 hs9
set_option maxRecDepth 100000 in
set_option maxHeartbeats 3200000 in
theorem Reckon_sub (gb : Nat) (d0 a0 b0 : Int) (v : UInt64) (P Q : Nat → Prop) (va : Int) (a b : Option Addr) (n c m d : Nat) (A B : List Tm) (w : World) (h : TOut P w a n c A) (h' : TOut Q w b m d B) (hQA : checkP va A = true) (hQB : checkP va B = true) (V : Int) (L : List Tm) (E : Int) (hV : mkV va (A ++ sortT (negT B)) = V) (hL : mkL va (A ++ sortT (negT B)) = L) (hE : mkE va (A ++ sortT (negT B)) = E) :
    Calls Tryz.prog 129 #[.pointer (some ⟨gb, 0, none⟩), .agg #[.int .i64 2, .int .i64 d0, .int .i64 a0, .int .i64 b0, .int .u64 (v.toNat : Int)], .agg #[.int .i64 va, .slice a n c], .agg #[.int .i64 va, .slice b m d]] w (PolyOut V L E w) := by
  obtain ⟨e1, e2, e3, e4⟩ := neg_facts hQB
  obtain ⟨hX1, hX2, hX3, hX4, hb0, hz0⟩ := four_boxes w 89 42 42 42 #[.int .i64 2, .int .i64 d0, .int .i64 a0, .int .i64 b0, .int .u64 (v.toNat : Int)] #[.int .i64 va, .slice a n c] #[.int .i64 va, .slice b m d] #[.int .i64 0, .slice none 0 0]
  obtain ⟨W0, hW0⟩ : ∃ W0, ((((w.alloc (.cells #[.int .i64 2, .int .i64 d0, .int .i64 a0, .int .i64 b0, .int .u64 (v.toNat : Int)] 89)).alloc (.cells #[.int .i64 va, .slice a n c] 42)).alloc (.cells #[.int .i64 va, .slice b m d] 42)).alloc (.cells #[.int .i64 0, .slice none 0 0] 42)) = W0 := ⟨_, rfl⟩
  rw [hW0] at hX1 hX2 hX3 hX4 hb0 hz0
  obtain ⟨o0, o1, o2, o3, o4, o5, o6, o7, o8, o9⟩ := hX1.c5
  obtain ⟨p0, p1, p2, p3⟩ := hX2.c2
  obtain ⟨q0, q1, q2, q3⟩ := hX3.c2
  have HW0 := hide hW0
  obtain ⟨M, hM⟩ : ∃ M, sortT (negT B) = M := ⟨_, rfl⟩
  rw [hM] at hV hL hE e3 e4
  have HA := hide (PNeg_good Q va b m d B W0 (h'.belowN hb0) hQB va M 0 e2 e3 e1)
  have HB := hide (fun (W : World) (kk : Below W0.heap.size W0 W) (a2 : Option Addr) (n2 c2 : Nat) (kT : TOut (fun q => W0.heap.size ≤ q) W a2 n2 c2 M) => PAdd_good P (fun q => W0.heap.size ≤ q) va a a2 n c n2 c2 A M W ((h.belowN hb0).belowN kk) kT hQA e4 V L E hV hL hE)
  clear hW0 hQA hQB h h' hV hL hE hM e1 e2 e3 e4
  go_enter Tryz.func129, Tryz.ntmps129
  go_wp2_with (first
    | (go_at_call 160; go_must ((with_reducible refine (HB.out _ hb2 _ _ _ hT2).mono ?_); rintro vv w9 ⟨a9, n9, c9, rfl, hT9, hb9⟩; have hB8 := hb2.trans (hb9.mono hb2.size); have hX9 := hX4.belowN hB8; obtain ⟨x0, x1, x2, x3⟩ := hX9.c2))
    | (go_at_call 161; go_must ((rw [HW0.out]); (with_reducible refine (HA.out).mono ?_); rintro vv w1 ⟨a1, n1, c1, rfl, hT1, hb1⟩; have hb2 := hb1.alloc hb1.size (.cells #[.int .i64 va, .slice a1 n1 c1] 42); have hT2 := hT1.belowN (below_box w1 (.cells #[.int .i64 va, .slice a1 n1 c1] 42)); have hN := Blk.new w1 42 #[.int .i64 va, .slice a1 n1 c1]; obtain ⟨y0, y1, y2, y3⟩ := hN.c2; obtain ⟨p4, p5, p6, p7⟩ := (hX2.belowN hb2).c2; obtain ⟨x4, x5, x6, x7⟩ := (hX4.belowN hb2).c2; have hzz := hb1.size)))
  have hB9 := hb0.trans (hB8.mono hb0.size)
  have hg9 : w.heap.size + 1 + 1 + 1 < (w1.alloc (.cells #[.int .i64 va, .slice a1 n1 c1] 42)).heap.size := by have := hb2.size; omega
  have hs9 := Nat.le_trans hb0.size hb2.size
  have hF6 := (hX9.set_ 0 (.int .i64 V)).set_ 1 (.slice a9 n9 c9)
  refine bodyPost_ret (results_rowP rfl _ _ (w.heap.size + 1 + 1 + 1) _ #[.int .i64 V, .slice a9 n9 c9] (0, 0) _ rfl hF6 Tryz.underlying42 rfl (by kernel_rfl)) rfl ?_
  exact PolyOut.stored hB9 hT9 (by omega) hg9 hs9
set_option maxRecDepth 100000 in
set_option maxHeartbeats 3200000 in
theorem Reckon_mul (gb : Nat) (d0 a0 b0 : Int) (v : UInt64) (P Q : Nat → Prop) (va : Int) (a b : Option Addr) (n c m d : Nat) (A B : List Tm) (w : World) (h : TOut P w a n c A) (h' : TOut Q w b m d B) (hQA : checkP va A = true) (hQB : checkP va B = true) (V : Int) (L : List Tm) (E : Int) (hV : mulV va A B = V) (hL : mulL va A B = L) (hE : mulE va A B = E) :
    Calls Tryz.prog 129 #[.pointer (some ⟨gb, 0, none⟩), .agg #[.int .i64 3, .int .i64 d0, .int .i64 a0, .int .i64 b0, .int .u64 (v.toNat : Int)], .agg #[.int .i64 va, .slice a n c], .agg #[.int .i64 va, .slice b m d]] w (PolyOut V L E w) := by
  obtain ⟨hX1, hX2, hX3, hX4, hb0, hz0⟩ := four_boxes w 89 42 42 42 #[.int .i64 3, .int .i64 d0, .int .i64 a0, .int .i64 b0, .int .u64 (v.toNat : Int)] #[.int .i64 va, .slice a n c] #[.int .i64 va, .slice b m d] #[.int .i64 0, .slice none 0 0]
  obtain ⟨W0, hW0⟩ : ∃ W0, ((((w.alloc (.cells #[.int .i64 3, .int .i64 d0, .int .i64 a0, .int .i64 b0, .int .u64 (v.toNat : Int)] 89)).alloc (.cells #[.int .i64 va, .slice a n c] 42)).alloc (.cells #[.int .i64 va, .slice b m d] 42)).alloc (.cells #[.int .i64 0, .slice none 0 0] 42)) = W0 := ⟨_, rfl⟩
  rw [hW0] at hX1 hX2 hX3 hX4 hb0 hz0
  obtain ⟨o0, o1, o2, o3, o4, o5, o6, o7, o8, o9⟩ := hX1.c5
  obtain ⟨p0, p1, p2, p3⟩ := hX2.c2
  obtain ⟨q0, q1, q2, q3⟩ := hX3.c2
  have HW0 := hide hW0
  have HA := hide (PMul_good P Q va a b n c m d A B W0 (h.belowN hb0) (h'.belowN hb0) hQA hQB V L E hV hL hE)
  clear hW0 hQA hQB h h' hV hL hE
  go_enter Tryz.func129, Tryz.ntmps129
  go_wp2_with (go_at_call 162; go_must ((rw [HW0.out]); (with_reducible refine (HA.out).mono ?_); rintro vv w9 ⟨a9, n9, c9, rfl, hT9, hb9⟩; have hX9 := hX4.belowN hb9; obtain ⟨x0, x1, x2, x3⟩ := hX9.c2))
  have hB9 := hb0.trans (hb9.mono hb0.size)
  have hg9 : w.heap.size + 1 + 1 + 1 < W0.heap.size := by omega
  have hs9 := hb0.size
  have hF6 := (hX9.set_ 0 (.int .i64 V)).set_ 1 (.slice a9 n9 c9)
  refine bodyPost_ret (results_rowP rfl _ _ (w.heap.size + 1 + 1 + 1) _ #[.int .i64 V, .slice a9 n9 c9] (0, 0) _ rfl hF6 Tryz.underlying42 rfl (by kernel_rfl)) rfl ?_
  exact PolyOut.stored hB9 hT9 (by omega) hg9 hs9
set_option maxRecDepth 100000 in
set_option maxHeartbeats 3200000 in
theorem Reckon_neg (gb : Nat) (d0 a0 b0 : Int) (v : UInt64) (P Q : Nat → Prop) (va : Int) (a b : Option Addr) (n c m d : Nat) (A B : List Tm) (w : World) (h : TOut P w a n c A) (h' : TOut Q w b m d B) (hQA : checkP va A = true) (hQB : checkP va B = true) (V : Int) (L : List Tm) (E : Int) (hV : mkV va (negT A) = V) (hL : mkL va (negT A) = L) (hE : mkE va (negT A) = E) :
    Calls Tryz.prog 129 #[.pointer (some ⟨gb, 0, none⟩), .agg #[.int .i64 4, .int .i64 d0, .int .i64 a0, .int .i64 b0, .int .u64 (v.toNat : Int)], .agg #[.int .i64 va, .slice a n c], .agg #[.int .i64 va, .slice b m d]] w (PolyOut V L E w) := by
  obtain ⟨hX1, hX2, hX3, hX4, hb0, hz0⟩ := four_boxes w 89 42 42 42 #[.int .i64 4, .int .i64 d0, .int .i64 a0, .int .i64 b0, .int .u64 (v.toNat : Int)] #[.int .i64 va, .slice a n c] #[.int .i64 va, .slice b m d] #[.int .i64 0, .slice none 0 0]
  obtain ⟨W0, hW0⟩ : ∃ W0, ((((w.alloc (.cells #[.int .i64 4, .int .i64 d0, .int .i64 a0, .int .i64 b0, .int .u64 (v.toNat : Int)] 89)).alloc (.cells #[.int .i64 va, .slice a n c] 42)).alloc (.cells #[.int .i64 va, .slice b m d] 42)).alloc (.cells #[.int .i64 0, .slice none 0 0] 42)) = W0 := ⟨_, rfl⟩
  rw [hW0] at hX1 hX2 hX3 hX4 hb0 hz0
  obtain ⟨o0, o1, o2, o3, o4, o5, o6, o7, o8, o9⟩ := hX1.c5
  obtain ⟨p0, p1, p2, p3⟩ := hX2.c2
  obtain ⟨q0, q1, q2, q3⟩ := hX3.c2
  have HW0 := hide hW0
  have HA := hide (PNeg_good P va a n c A W0 (h.belowN hb0) hQA V L E hV hL hE)
  clear hW0 hQA hQB h h' hV hL hE
  go_enter Tryz.func129, Tryz.ntmps129
  go_wp2_with (go_at_call 161; go_must ((rw [HW0.out]); (with_reducible refine (HA.out).mono ?_); rintro vv w9 ⟨a9, n9, c9, rfl, hT9, hb9⟩; have hX9 := hX4.belowN hb9; obtain ⟨x0, x1, x2, x3⟩ := hX9.c2))
  have hB9 := hb0.trans (hb9.mono hb0.size)
  have hg9 : w.heap.size + 1 + 1 + 1 < W0.heap.size := by omega
  have hs9 := hb0.size
  have hF6 := (hX9.set_ 0 (.int .i64 V)).set_ 1 (.slice a9 n9 c9)
  refine bodyPost_ret (results_rowP rfl _ _ (w.heap.size + 1 + 1 + 1) _ #[.int .i64 V, .slice a9 n9 c9] (0, 0) _ rfl hF6 Tryz.underlying42 rfl (by kernel_rfl)) rfl ?_
  exact PolyOut.stored hB9 hT9 (by omega) hg9 hs9
set_option maxRecDepth 100000 in
set_option maxHeartbeats 3200000 in
theorem Reckon_con (gb : Nat) (d0 a0 b0 : Int) (v : UInt64) (P Q : Nat → Prop) (va : Int) (a b : Option Addr) (n c m d : Nat) (A B : List Tm) (w : World) (h : TOut P w a n c A) (h' : TOut Q w b m d B) (hQA : checkP va A = true) (hQB : checkP va B = true) (V : Int) (L : List Tm) (E : Int) (bm bn : Value) (hbk : Blk w gb 159 #[.int .i64 va, bm, bn]) (hV : mkV va (constT va v) = V) (hL : mkL va (constT va v) = L) (hE : mkE va (constT va v) = E) :
    Calls Tryz.prog 129 #[.pointer (some ⟨gb, 0, none⟩), .agg #[.int .i64 5, .int .i64 d0, .int .i64 a0, .int .i64 b0, .int .u64 (v.toNat : Int)], .agg #[.int .i64 va, .slice a n c], .agg #[.int .i64 va, .slice b m d]] w (PolyOut V L E w) := by
  obtain ⟨hX1, hX2, hX3, hX4, hb0, hz0⟩ := four_boxes w 89 42 42 42 #[.int .i64 5, .int .i64 d0, .int .i64 a0, .int .i64 b0, .int .u64 (v.toNat : Int)] #[.int .i64 va, .slice a n c] #[.int .i64 va, .slice b m d] #[.int .i64 0, .slice none 0 0]
  have hbk0 := hbk.belowN hb0
  have hn1 : w.heap.size + 1 + 1 + 1 ≠ gb := by have := hbk.lt; omega
  have hn2 : w.heap.size + 1 + 1 + 1 ≠ w.heap.size := by omega
  have hbk1 := hbk0
  obtain ⟨k0, k1, k2, k3, k4, k5⟩ := hbk0.c3
  obtain ⟨W0, hW0⟩ : ∃ W0, ((((w.alloc (.cells #[.int .i64 5, .int .i64 d0, .int .i64 a0, .int .i64 b0, .int .u64 (v.toNat : Int)] 89)).alloc (.cells #[.int .i64 va, .slice a n c] 42)).alloc (.cells #[.int .i64 va, .slice b m d] 42)).alloc (.cells #[.int .i64 0, .slice none 0 0] 42)) = W0 := ⟨_, rfl⟩
  rw [hW0] at hbk1 hX1 hX2 hX3 hX4 hb0 hz0
  obtain ⟨o0, o1, o2, o3, o4, o5, o6, o7, o8, o9⟩ := hX1.c5
  obtain ⟨p0, p1, p2, p3⟩ := hX2.c2
  obtain ⟨q0, q1, q2, q3⟩ := hX3.c2
  have HW0 := hide hW0
  have HA := hide (fun (W : World) => PConst_calls va v W V L E hV hL hE)
  clear hW0 hQA hQB h h' hV hL hE hbk hbk0
  go_enter Tryz.func129, Tryz.ntmps129
  go_wp2
  go_region_held3 (fun w' => w'.cell? ⟨w.heap.size, 4, none⟩ = some (.int .u64 (v.toNat : Int)) ∧ w'.cell? ⟨gb, 0, none⟩ = some (.int .i64 va)) (go_keep) (first | (go_at_call 111; go_must ((rw [HW0.out]); (with_reducible refine (HA.out W0.drew).mono ?_); rintro vv w9 ⟨a9, n9, c9, rfl, hT9, hb9x⟩; have hb9 : Below W0.heap.size W0 w9 := (Below.drew (Below.refl W0.heap.size W0)).trans hb9x; obtain ⟨r0, r1, r2, r3, r4, r5, r6, r7, r8, r9⟩ := (hX1.belowN hb9).c5; obtain ⟨l0, l1, l2, l3, l4, l5⟩ := (hbk1.belowN hb9).c3; have hX9 := hX4.belowN hb9; obtain ⟨x0, x1, x2, x3⟩ := hX9.c2)))
  go_wp2
  have hB9 := hb0.trans (hb9.mono hb0.size)
  have hg9 : w.heap.size + 1 + 1 + 1 < W0.heap.size := by omega
  have hs9 := hb0.size
  have hF6 := (hX9.set_ 0 (.int .i64 V)).set_ 1 (.slice a9 n9 c9)
  refine bodyPost_ret (results_rowP rfl _ _ (w.heap.size + 1 + 1 + 1) _ #[.int .i64 V, .slice a9 n9 c9] (0, 0) _ rfl hF6 Tryz.underlying42 rfl (by kernel_rfl)) rfl ?_
  exact PolyOut.stored hB9 hT9 (by omega) hg9 hs9
end Go.Proofs.YtcamcnahkdiefaaGreat

/- What an operation makes of two polynomials, whatever its kind. -/
namespace Go.Proofs.YtcamcnahkdiefaaGreat
set_option linter.unusedVariables false
set_option linter.unusedSimpArgs false
open Go.RowKit
theorem Reckon_calls (gb : Nat) (k d0 a0 b0 : Int) (v : UInt64) (hk : 1 ≤ k ∧ k ≤ 5) (P Q : Nat → Prop) (va : Int) (a b : Option Addr) (n c m d : Nat) (A B : List Tm) (w : World) (h : TOut P w a n c A) (h' : TOut Q w b m d B) (hQA : checkP va A = true) (hQB : checkP va B = true)
    (bm bn : Value) (hbk : Blk w gb 159 #[.int .i64 va, bm, bn]) (V : Int) (L : List Tm) (E : Int) (hV : symV va k v A B = V) (hL : symL va k v A B = L) (hE : symE va k v A B = E) :
    Calls Tryz.prog 129 #[.pointer (some ⟨gb, 0, none⟩), .agg #[.int .i64 k, .int .i64 d0, .int .i64 a0, .int .i64 b0, .int .u64 (v.toNat : Int)], .agg #[.int .i64 va, .slice a n c], .agg #[.int .i64 va, .slice b m d]] w (PolyOut V L E w) := by
  have hc : k = 1 ∨ k = 2 ∨ k = 3 ∨ k = 4 ∨ k = 5 := by omega
  rcases hc with rfl | rfl | rfl | rfl | rfl
  · exact Reckon_add gb d0 a0 b0 v P Q va a b n c m d A B w h h' hQA hQB V L E hV hL hE
  · exact Reckon_sub gb d0 a0 b0 v P Q va a b n c m d A B w h h' hQA hQB V L E hV hL hE
  · exact Reckon_mul gb d0 a0 b0 v P Q va a b n c m d A B w h h' hQA hQB V L E hV hL hE
  · exact Reckon_neg gb d0 a0 b0 v P Q va a b n c m d A B w h h' hQA hQB V L E hV hL hE
  · exact Reckon_con gb d0 a0 b0 v P Q va a b n c m d A B w h h' hQA hQB V L E bm bn hbk hV hL hE
theorem mk_fine {va : Int} {l : List Tm} (h : mkE va l = 0) : mkV va l = va ∧ checkP va (mkL va l) = true := by
  obtain ⟨e1, e2, _, _, _, e3⟩ := mk_ok0 h
  exact ⟨e1, by rw [e2]; exact e3⟩
theorem sym_fine {va k : Int} {v : UInt64} {A B : List Tm} (hA : checkP va A = true) (h : symE va k v A B = 0) : symV va k v A B = va ∧ checkP va (symL va k v A B) = true := by
  unfold symE at h
  unfold symV symL
  split at h
  · rename_i hk; rw [if_pos hk, if_pos hk]; exact mk_fine h
  rename_i h1; rw [if_neg h1, if_neg h1]
  split at h
  · rename_i hk; rw [if_pos hk, if_pos hk]; exact mk_fine h
  rename_i h2; rw [if_neg h2, if_neg h2]
  split at h
  · rename_i hk; rw [if_pos hk, if_pos hk]
    unfold mulE at h
    split at h
    · rename_i hr
      unfold mulV mulL
      rw [if_pos hr, if_pos hr]; exact mk_fine h
    · cases h
  rename_i h3; rw [if_neg h3, if_neg h3]
  split at h
  · rename_i hk; rw [if_pos hk, if_pos hk]; exact mk_fine h
  rename_i h4; rw [if_neg h4, if_neg h4]
  split at h
  · rename_i hk; rw [if_pos hk, if_pos hk]; exact mk_fine h
  rename_i h5; rw [if_neg h5, if_neg h5]
  exact ⟨rfl, hA⟩
def runS (va : Int) : List OpD → List (List Tm) → Int × List (List Tm)
  | [], r => (0, r)
  | x :: l, r => if symE va x.kind x.v (r.getD x.a.toNat []) (r.getD x.b.toNat []) = 0 then runS va l (r.set x.d.toNat (symL va x.kind x.v (r.getD x.a.toNat []) (r.getD x.b.toNat []))) else (symE va x.kind x.v (r.getD x.a.toNat []) (r.getD x.b.toNat []), [])
def AllP (va : Int) (r : List (List Tm)) : Prop := ∀ L ∈ r, checkP va L = true
theorem AllP.get {va : Int} {r : List (List Tm)} (h : AllP va r) {k : Nat} (hk : k < r.length) : checkP va (r.getD k []) = true := by
  rw [List.getD_eq_getElem?_getD, List.getElem?_eq_getElem hk]
  exact h _ (List.getElem_mem hk)
theorem AllP.set {va : Int} {r : List (List Tm)} (h : AllP va r) {L : List Tm} (hL : checkP va L = true) (k : Nat) : AllP va (r.set k L) := fun M hM => by
  rcases List.mem_or_eq_of_mem_set hM with h1 | h1
  · exact h M h1
  · rw [h1]; exact hL
structure PoH where
  v : Int
  a : Option Addr
  n : Nat
  c : Nat
instance : Flat PoH := ⟨2, fun x => [.int .i64 x.v, .slice x.a x.n x.c], fun _ => rfl, fun x u hu => by simp at hu; rcases hu with rfl | rfl <;> rfl, by decide⟩
instance : Inhabited PoH := ⟨⟨0, none, 0, 0⟩⟩
structure StH where
  v : Int
  a : Option Addr
  n : Nat
  c : Nat
  k : Int
instance : Flat StH := ⟨3, fun x => [.int .i64 x.v, .slice x.a x.n x.c, .int .i64 x.k], fun _ => rfl, fun x u hu => by simp at hu; rcases hu with rfl | rfl | rfl <;> rfl, by decide⟩
instance : Inhabited StH := ⟨⟨0, none, 0, 0, 0⟩⟩
def PsAt (P : Nat → Prop) (w : World) (va : Int) (hs : List PoH) (r : List (List Tm)) : Prop := hs.length = r.length ∧ ∀ (i : Nat) (h : PoH) (L : List Tm), hs[i]? = some h → r[i]? = some L → h.v = va ∧ TOut P w h.a h.n h.c L
theorem PsAt.belowN {P : Nat → Prop} {w w' : World} {va : Int} {hs : List PoH} {r : List (List Tm)} (h : PsAt P w va hs r) (hb : Below w.heap.size w w') : PsAt P w' va hs r := ⟨h.1, fun i y L e1 e2 => ⟨(h.2 i y L e1 e2).1, (h.2 i y L e1 e2).2.belowN hb⟩⟩
theorem PsAt.imp {P Q : Nat → Prop} {w : World} {va : Int} {hs : List PoH} {r : List (List Tm)} (h : PsAt P w va hs r) (hi : ∀ q, P q → Q q) : PsAt Q w va hs r := ⟨h.1, fun i y L e1 e2 => ⟨(h.2 i y L e1 e2).1, (h.2 i y L e1 e2).2.imp hi⟩⟩
theorem PsAt.grown {P : Nat → Prop} {w w' : World} {va : Int} {hs : List PoH} {r : List (List Tm)} {row : Option Nat} (h : PsAt P w va hs r) (hgr : w.grownBy w' row) (hg : ∀ g, row = some g → ¬ P g) : PsAt P w' va hs r := ⟨h.1, fun i y L e1 e2 => ⟨(h.2 i y L e1 e2).1, (h.2 i y L e1 e2).2.grown hgr hg⟩⟩
theorem PsAt.bounded {P : Nat → Prop} {w : World} {va : Int} {hs : List PoH} {r : List (List Tm)} (h : PsAt P w va hs r) : PsAt (fun q => P q ∧ q < w.heap.size) w va hs r := ⟨h.1, fun i y L e1 e2 => ⟨(h.2 i y L e1 e2).1, (h.2 i y L e1 e2).2.bounded⟩⟩
theorem PsAt.nil (P : Nat → Prop) (w : World) (va : Int) : PsAt P w va [] [] := ⟨rfl, fun i h L e => by simp at e⟩
theorem PsAt.push {P : Nat → Prop} {w : World} {va : Int} {hs : List PoH} {r : List (List Tm)} (h : PsAt P w va hs r) {y : PoH} {L : List Tm} (hv : y.v = va) (hT : TOut P w y.a y.n y.c L) : PsAt P w va (hs ++ [y]) (r ++ [L]) := by
  refine ⟨by simp [h.1], fun i z M e1 e2 => ?_⟩
  by_cases hi : i < hs.length
  · rw [List.getElem?_append_left hi] at e1
    rw [List.getElem?_append_left (by rw [← h.1]; exact hi)] at e2
    exact h.2 i z M e1 e2
  · have h0 : i = hs.length := by
      have := List.getElem?_eq_some_iff.1 e1
      obtain ⟨h1, _⟩ := this
      simp at h1; omega
    subst h0
    rw [List.getElem?_append_right (Nat.le_refl _)] at e1
    rw [h.1, List.getElem?_append_right (Nat.le_refl _)] at e2
    simp at e1 e2
    subst e1 e2
    exact ⟨hv, hT⟩
theorem PsAt.set {P : Nat → Prop} {w : World} {va : Int} {hs : List PoH} {r : List (List Tm)} (h : PsAt P w va hs r) {y : PoH} {L : List Tm} (k : Nat) (hv : y.v = va) (hT : TOut P w y.a y.n y.c L) : PsAt P w va (hs.set k y) (r.set k L) := by
  refine ⟨by simp [h.1], fun i z M e1 e2 => ?_⟩
  by_cases hi : k = i
  · subst hi
    rw [List.getElem?_set] at e1 e2
    simp at e1 e2
    obtain ⟨_, rfl⟩ := e1
    obtain ⟨_, rfl⟩ := e2
    exact ⟨hv, hT⟩
  · rw [List.getElem?_set_ne hi] at e1 e2
    exact h.2 i z M e1 e2
theorem PsAt.get {P : Nat → Prop} {w : World} {va : Int} {hs : List PoH} {r : List (List Tm)} (h : PsAt P w va hs r) {k : Nat} {y : PoH} (hy : hs[k]? = some y) : y.v = va ∧ TOut P w y.a y.n y.c (r.getD k []) := by
  have hk : k < r.length := by rw [← h.1]; exact (List.getElem?_eq_some_iff.1 hy).1
  refine h.2 k y _ hy ?_
  rw [List.getD_eq_getElem?_getD, List.getElem?_eq_getElem hk]
  rfl
end Go.Proofs.YtcamcnahkdiefaaGreat

/- The document's run of operations on polynomials. -/
namespace Go.Proofs.YtcamcnahkdiefaaGreat
set_option linter.unusedVariables false
set_option linter.unusedSimpArgs false
open Go.RowKit
theorem tyPo : Ty Tryz.prog 27 42 PoH := Ty.of (z := .agg #[.int .i64 0, .slice none 0 0]) (size := 2) (bytes := 32) Tryz.underlying27 (by kernel_rfl) rfl (by decide) rfl
theorem At.getPo {w wr : World} {a : Option Addr} {l : List PoH} (h : At w a l) (hb : Below w.heap.size w wr) {k : Nat} (hk : k < l.length) :
    ∃ b off x, a = some ⟨b, off, none⟩ ∧ Hid (l[k]? = some x) ∧ wr.cell? ⟨b, off + k * 2, none⟩ = some (.int .i64 x.v) ∧ wr.cell? ⟨b, off + k * 2 + 1, none⟩ = some (.slice x.a x.n x.c) := by
  obtain ⟨b, off, x, e, hx, hc⟩ := (h.belowN hb).get hk
  exact ⟨b, off, x, e, hx, hc 0 _ rfl, hc 1 _ rfl⟩
end Go.Proofs.YtcamcnahkdiefaaGreat
