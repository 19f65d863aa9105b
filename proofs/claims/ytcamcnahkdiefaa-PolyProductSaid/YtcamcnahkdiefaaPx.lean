/- Negatives of both sides. -/
import Derived.Test.YtcamcnahkdiefaaPw
namespace Go.Proofs.Ytcamcnahkdiefaa
set_option linter.unusedVariables false
set_option linter.unusedSimpArgs false
open Go.RowKit
theorem AtTP.lt {P : Nat → Prop} {w : World} {b off : Nat} {ts : List Tm} (h : AtTP P w (some ⟨b, off, none⟩) ts) (hne : 0 < ts.length) : b < w.heap.size := by
  obtain ⟨hs, h1, h2, _⟩ := h
  obtain ⟨b', off', e, hb⟩ := h1.lt (by rintro rfl; simp at h2; omega)
  injection e with e
  injection e with e _
  omega
def negT (l : List Tm) : List Tm := l.map fun t => (0 - t.1, t.2)
theorem negT_take {l : List Tm} {k : Nat} {t : Tm} (h : l[k]? = some t) : (negT l).take (k + 1) = (negT l).take k ++ [(0 - t.1, t.2)] := by
  unfold negT
  rw [List.take_add_one, List.getElem?_map, h]; rfl
theorem negT_right {vars : Int} {l : List Tm} (h : rightL vars l = true) : rightL vars (negT l) = true := by
  refine List.all_eq_true.2 fun t ht => ?_
  obtain ⟨s, hs, rfl⟩ := List.mem_map.1 ht
  exact List.all_eq_true.1 h s hs
theorem negT_len (l : List Tm) : (negT l).length = l.length := by simp [negT]
theorem NegW_calls (x : UInt64) (w : World) : Calls Try.prog 49 #[.int .u64 (x.toNat : Int)] w fun v w' => v = .returned (.int .u64 ((0 - x).toNat : Int)) ∧ w = w' := by
  have h := u64_neg x
  go_enter Try.func49, Try.ntmps49
  go_wp2
  go_ret
  exact ⟨rfl, rfl⟩
set_option maxRecDepth 100000 in
set_option maxHeartbeats 3200000 in
theorem PNeg_bad (P : Nat → Prop) (va : Int) (a : Option Addr) (n c : Nat) (A : List Tm) (w : World) (h : TOut P w a n c A) (hl : n ≤ 1000000) (hll : ∀ t ∈ A, t.2.length ≤ 1000000) (hQ : checkP va A = false) :
    Calls Try.prog 30 #[.agg #[.int .i64 va, .slice a n c]] w (PolyOut 0 [] 2 w) := by
  obtain ⟨hX1, hX3, hb0, hz0⟩ := two_boxes w 24 24 #[.int .i64 va, .slice a n c] #[.int .i64 0, .slice none 0 0]
  obtain ⟨W0, hW0⟩ : ∃ W0, (w.alloc (.cells #[.int .i64 va, .slice a n c] 24)).alloc (.cells #[.int .i64 0, .slice none 0 0] 24) = W0 := ⟨_, rfl⟩
  rw [hW0] at hX1 hX3 hb0 hz0
  have HCA := hide (Check_calls va a n c A h.len W0 (h.at_.at_.belowN hb0) hl hll false hQ)
  obtain ⟨p0, p1, p2, p3⟩ := hX1.c2
  have HW0 := hide hW0
  clear hQ h hll hW0
  go_enter Try.func30, Try.ntmps30
  go_wp2_with (go_at_call 21; go_must ((rw [HW0.out]); (with_reducible refine (HCA.out).mono ?_); rintro v w1 ⟨rfl, hb1⟩; have hX5 := hX3.belowN hb1; obtain ⟨x0, x1, x2, x3⟩ := hX5.c2))
  have hF6 := (hX5.set_ 0 (.int .i64 0)).set_ 1 (.slice none 0 0)
  refine bodyPost_ret (results_rowP rfl _ _ (w.heap.size + 1) _ #[.int .i64 0, .slice none 0 0] (0, 0) _ rfl hF6 Try.underlying24 rfl (by kernel_rfl)) rfl ?_
  have hB5 := hb0.trans (hb1.mono hb0.size)
  exact PolyOut.bad _ _ _ ((hB5.setCell (p := ⟨w.heap.size + 1, 0, none⟩) (by show _ ≤ w.heap.size + 1; omega) (.int .i64 0)).setCell (p := ⟨w.heap.size + 1, 1, none⟩) (by show _ ≤ w.heap.size + 1; omega) (.slice none 0 0))
set_option maxRecDepth 100000 in
set_option maxHeartbeats 6400000 in
theorem PNeg_good (P : Nat → Prop) (va : Int) (a : Option Addr) (n c : Nat) (A : List Tm) (w : World) (h : TOut P w a n c A) (hQ : checkP va A = true) (V : Int) (L : List Tm) (E : Int) (hV : mkV va (negT A) = V) (hL : mkL va (negT A) = L) (hE : mkE va (negT A) = E) :
    Calls Try.prog 30 #[.agg #[.int .i64 va, .slice a n c]] w (PolyOut V L E w) := by
  obtain ⟨hX1, hX3, hb0, hz0⟩ := two_boxes w 24 24 #[.int .i64 va, .slice a n c] #[.int .i64 0, .slice none 0 0]
  obtain ⟨W0, hW0⟩ : ∃ W0, (w.alloc (.cells #[.int .i64 va, .slice a n c] 24)).alloc (.cells #[.int .i64 0, .slice none 0 0] 24) = W0 := ⟨_, rfl⟩
  rw [hW0] at hX1 hX3 hb0 hz0
  have hok := checkP_ok hQ
  have hn4 : n ≤ 4096 := by rw [h.len]; exact hok.len
  have HCA := hide (Check_calls va a n c A h.len W0 (h.at_.at_.belowN hb0) (by omega) hok.len6 true hQ)
  obtain ⟨p0, p1, p2, p3⟩ := hX1.c2
  have HW0 := hide hW0
  have HN := hide h.len
  have hat := h.at_.belowN hb0
  have HRT := hide hok.rt
  have HOK := hide hok
  have HV := hide hV
  have HL := hide hL
  have HE := hide hE
  have HH := hide (fun W => Heap_calls va.toNat va W)
  clear hQ h hW0 hok hV hL hE
  go_enter Try.func30, Try.ntmps30
  go_wp2_with (first
    | (go_at_call 21; go_must ((rw [HW0.out]); (with_reducible refine (HCA.out).mono ?_); rintro v w1 ⟨rfl, hb1⟩; obtain ⟨r0, r1, r2, r3⟩ := (hX1.belowN hb1).c2))
    | (go_at_call 32; go_must ((with_reducible refine (HH.out _).mono ?_); rintro v w2 ⟨rfl, hH2, hb2⟩; have hB2 := hb1.trans (hb2.mono hb1.size); obtain ⟨s0, s1, s2, s3⟩ := (hX1.belowN hB2).c2)))
  obtain ⟨g, hg⟩ : ∃ g, g = w1.heap.size := ⟨_, rfl⟩
  rw [← hg] at hH2 ⊢
  have hX5 := hX3.belowN hb1
  have hgw : w.heap.size + 1 < g := by rw [hg]; exact hX5.lt
  have hBz := hb0.trans (hb1.mono hb0.size)
  have HG := hide hg
  have hat1 := hat.belowN hb1
  have hb2g : Below g w1 w2 := by rw [hg]; exact hb2
  clear hg HH HCA hb2 hB2
  go_loopw [21] (fun iv wr => ∃ k : Nat, iv = .int .i64 k ∧ k ≤ n ∧ HeapT wr g va va.toNat ((negT A).take k) ∧ Below g w1 wr) (fun iv _ => n - (intOf iv).toNat)
  case atStart => exact ⟨0, rfl, by omega, hH2, hb2g⟩
  case round =>
    obtain ⟨k, rfl, hk, hH, hbr⟩ := hrel
    have hbX : Below w1.heap.size w1 wr := hbr.mono (by rw [HG.out]; exact Nat.le_refl _)
    have hzr := hH.lt
    have hXr := hX5.belowN hbX
    have hBr := hBz.trans (hbX.mono hBz.size)
    obtain ⟨x0, x1, x2, x3⟩ := hXr.c2
    by_cases hlt : k < n
    · obtain ⟨b1, off1, t, ea, en, ec, rfl, ht, t0, t1, hrow, hfar⟩ := hat1.getF hbX (k := k) (by rw [← HN.out]; exact hlt)
      have hk0 : (0 : Int) ≤ (k : Int) := by omega
      have hk1 : (k : Int) < (n : Int) := by omega
      have hen : en = t.2.length := hrow.out.2.1
      have hrt := HRT.out t (List.mem_of_getElem? ht.out)
      have hlen := rightT_len hrt
      have hv := HOK.out.n64
      have hbx := below_box wr (.cells #[.int .u64 (t.1.toNat : Int), .slice ea en ec] 57)
      have hT := Blk.new wr 57 #[.int .u64 (t.1.toNat : Int), .slice ea en ec]
      obtain ⟨r0, r1, r2, r3⟩ := hT.c2
      have hea := hrow.out.2.2.2.2.belowN hbx
      obtain ⟨z, hz⟩ : ∃ z, 0 - t.1 = z := ⟨_, rfl⟩
      have HNW := hide (fun W => NegW_calls t.1 W)
      have HTK := hide (negT_take ht.out)
      rw [hz] at HNW HTK
      have HPT := hide (Put_calls ((wr.alloc (.cells #[.int .u64 (t.1.toNat : Int), .slice ea en ec] 57)).drew) g va va.toNat ((negT A).take k) ((hH.belowN hbx).belowN (Below.drew (Below.refl _ _))) (by rw [List.length_take]; omega) (z, t.2) ea en ec hen (by show t.2.length = _; omega) (by omega) (rightT_in hrt) hea)
      have hBw := Below.drew (Below.refl (wr.alloc (.cells #[.int .u64 (t.1.toNat : Int), .slice ea en ec] 57)).heap.size (wr.alloc (.cells #[.int .u64 (t.1.toNat : Int), .slice ea en ec] 57)))
      clear ht hen hlen hrt hz
      go_wp2
      go_region_held3 (fun w' => w'.cell? ⟨wr.heap.size, 0, none⟩ = some (.int .u64 (t.1.toNat : Int)) ∧ w'.cell? ⟨wr.heap.size, 1, none⟩ = some (.slice ea en ec)) (go_keep)
        (first
          | (go_at_call 49; go_must ((with_reducible refine (HNW.out _).mono ?_); rintro v w5 ⟨rfl, rfl⟩))
          | (go_at_call 51; go_must ((with_reducible refine (HPT.out).mono ?_); rintro v w6 ⟨rfl, hH6, hg6⟩; obtain ⟨q4, q5, q6, q7⟩ := (Blk.grown (w := (wr.alloc (.cells #[.int .u64 (t.1.toNat : Int), .slice ea en ec] 57)).drew) hT hg6 (by simp; omega)).c2)))
      go_wp2
      go_roundw
      case rel => exact ⟨k + 1, by go_num, by omega, by rw [HTK.out]; exact hH6, ((hbr.alloc (by omega) _).trans ((below_drawn _ _ 1))).grown hg6 (by simp; omega) (fun j hj => by cases hj; omega)⟩
      case measure => simp [intOf]; omega
    · obtain rfl : k = n := by omega
      have hneg : (negT A).take k = negT A := List.take_of_length_le (by rw [negT_len, ← HN.out]; exact Nat.le_refl _)
      rw [hneg] at hH
      have hP2 := negT_right HOK.out.right
      obtain ⟨q1, q2, q3⟩ := mk_ok HOK.out.range hP2
      have HA := hide (All_calls wr g va va.toNat (negT A) hH (by rw [negT_len, ← HN.out]; omega) (LenT.of_right (List.all_eq_true.1 hP2)) (rightL_in hP2) (by have := HOK.out.n64; omega) V L E (by rw [← q2, HV.out]) (by rw [← q3, HL.out]) (by rw [← q1, HE.out]))
      clear hP2 q1 q2 q3 hneg
      go_wp2_with (go_at_call 53; go_must ((with_reducible refine (HA.out).mono ?_); rintro v w6 ⟨a6, n6, c6, rfl, hT6, hb6⟩; have hX6 := hXr.belowN hb6; obtain ⟨y0, y1, y2, y3⟩ := hX6.c2))
      have hF6 := (hX6.set_ 0 (.int .i64 V)).set_ 1 (.slice a6 n6 c6)
      refine bodyPost_ret (results_rowP rfl _ _ (w.heap.size + 1) _ #[.int .i64 V, .slice a6 n6 c6] (0, 0) _ rfl hF6 Try.underlying24 rfl (by kernel_rfl)) rfl ?_
      exact PolyOut.stored (hBr.trans (hb6.mono hBr.size)) hT6 (by omega) hXr.lt hBr.size
set_option maxRecDepth 100000 in
set_option maxHeartbeats 3200000 in
theorem RNeg3_bad (P : Nat → Prop) (va : Int) (a : Option Addr) (n c : Nat) (A : List Tm) (w : World) (h : TOut P w a n c A) (hl : n ≤ 1000000) (hll : ∀ t ∈ A, t.2.length ≤ 1000000) (hQ : checkP va A = false) :
    Calls Try.prog 31 #[.agg #[.int .i64 va, .slice a n c]] w (PolyOut 0 [] 2 w) := by
  obtain ⟨hX1, hX3, hb0, hz0⟩ := two_boxes w 24 24 #[.int .i64 va, .slice a n c] #[.int .i64 0, .slice none 0 0]
  obtain ⟨W0, hW0⟩ : ∃ W0, (w.alloc (.cells #[.int .i64 va, .slice a n c] 24)).alloc (.cells #[.int .i64 0, .slice none 0 0] 24) = W0 := ⟨_, rfl⟩
  rw [hW0] at hX1 hX3 hb0 hz0
  have HCA := hide (RCheck_calls va a n c A h.len W0 (h.at_.at_.belowN hb0) hl hll false hQ)
  obtain ⟨p0, p1, p2, p3⟩ := hX1.c2
  have HW0 := hide hW0
  clear hQ h hll hW0
  go_enter Try.func31, Try.ntmps31
  go_wp2_with (go_at_call 22; go_must ((rw [HW0.out]); (with_reducible refine (HCA.out).mono ?_); rintro v w1 ⟨rfl, hb1⟩; have hX5 := hX3.belowN hb1; obtain ⟨x0, x1, x2, x3⟩ := hX5.c2))
  have hF6 := (hX5.set_ 0 (.int .i64 0)).set_ 1 (.slice none 0 0)
  refine bodyPost_ret (results_rowP rfl _ _ (w.heap.size + 1) _ #[.int .i64 0, .slice none 0 0] (0, 0) _ rfl hF6 Try.underlying24 rfl (by kernel_rfl)) rfl ?_
  have hB5 := hb0.trans (hb1.mono hb0.size)
  exact PolyOut.bad _ _ _ ((hB5.setCell (p := ⟨w.heap.size + 1, 0, none⟩) (by show _ ≤ w.heap.size + 1; omega) (.int .i64 0)).setCell (p := ⟨w.heap.size + 1, 1, none⟩) (by show _ ≤ w.heap.size + 1; omega) (.slice none 0 0))
set_option maxRecDepth 100000 in
set_option maxHeartbeats 6400000 in
theorem RNeg3_good (P : Nat → Prop) (va : Int) (a : Option Addr) (n c : Nat) (A : List Tm) (w : World) (h : TOut P w a n c A) (hQ : checkP va A = true) (V : Int) (L : List Tm) (E : Int) (hV : mkV va (negT A) = V) (hL : mkL va (negT A) = L) (hE : mkE va (negT A) = E) :
    Calls Try.prog 31 #[.agg #[.int .i64 va, .slice a n c]] w (PolyOut V L E w) := by
  obtain ⟨hX1, hX3, hb0, hz0⟩ := two_boxes w 24 24 #[.int .i64 va, .slice a n c] #[.int .i64 0, .slice none 0 0]
  obtain ⟨W0, hW0⟩ : ∃ W0, (w.alloc (.cells #[.int .i64 va, .slice a n c] 24)).alloc (.cells #[.int .i64 0, .slice none 0 0] 24) = W0 := ⟨_, rfl⟩
  rw [hW0] at hX1 hX3 hb0 hz0
  have hok := checkP_ok hQ
  have hn4 : n ≤ 4096 := by rw [h.len]; exact hok.len
  have HCA := hide (RCheck_calls va a n c A h.len W0 (h.at_.at_.belowN hb0) (by omega) hok.len6 true hQ)
  obtain ⟨p0, p1, p2, p3⟩ := hX1.c2
  have HW0 := hide hW0
  have HN := hide h.len
  have hat := h.at_.belowN hb0
  have h6 : ∀ t ∈ negT A, t.2.length ≤ 1000000 := fun t ht => by
    obtain ⟨s, hs, rfl⟩ := List.mem_map.1 ht
    exact hok.len6 s hs
  have HMK := hide (fun (W : World) (a3 : Option Addr) (c3 : Nat) (R : Nat → Prop) (k : TOut R W a3 n c3 (negT A)) => RMake_calls R va a3 n c3 (negT A) W k (by omega) h6 V L E hV hL hE)
  clear hQ h hW0 hok hV hL hE h6
  go_enter Try.func31, Try.ntmps31
  go_wp2_with (go_at_call 22; go_must ((rw [HW0.out]); (with_reducible refine (HCA.out).mono ?_); rintro v w1 ⟨rfl, hb1⟩; obtain ⟨r0, r1, r2, r3⟩ := (hX1.belowN hb1).c2))
  have hX5 := hX3.belowN hb1
  have hX6 := hX1.belowN hb1
  have hBz := hb0.trans (hb1.mono hb0.size)
  have hat1 := hat.belowN hb1
  have hO1 := OwnT.nil (P := fun q => q < w1.heap.size) (Own.new w1 (Nat.le_refl _) 57 TmH)
  have hbN := below_box w1 (.cells #[] 57)
  clear HCA
  go_loopw [4, 5] (fun ov iv wr => ∃ (k : Nat) (ao : Option Addr) (co : Nat) (hs : List TmH), iv = .int .i64 k ∧ k ≤ n ∧ ov = .slice ao k co ∧ OwnT (fun q => q < w1.heap.size) wr w1.heap.size ao co hs ((negT A).take k) ∧ Below w1.heap.size w1 wr) (fun _ iv _ => n - (intOf iv).toNat)
  case atStart => exact ⟨0, _, _, [], rfl, by omega, rfl, hO1, hbN⟩
  case round =>
    obtain ⟨k, ao, co, hs, rfl, hk, rfl, hO, hb⟩ := hrel
    have hzr := hb.size
    have hXr := hX5.belowN hb
    have hXa := hX6.belowN hb
    have hBr := hBz.trans (hb.mono hBz.size)
    obtain ⟨x0, x1, x2, x3⟩ := hXr.c2
    obtain ⟨z0, z1, z2, z3⟩ := hXa.c2
    by_cases hlt : k < n
    · obtain ⟨b1, off1, t, ea, en, ec, rfl, ht, t0, t1, hrow, hfar⟩ := hat1.getF hb (k := k) (by rw [← HN.out]; exact hlt)
      have hk0 : (0 : Int) ≤ (k : Int) := by omega
      have hk1 : (k : Int) < (n : Int) := by omega
      obtain ⟨z, hz⟩ : ∃ z, 0 - t.1 = z := ⟨_, rfl⟩
      have HNW := hide (fun W => Neg_calls t.1 W)
      have HTK := hide (negT_take ht.out)
      rw [hz] at HNW HTK
      have HHL : Hid (k = hs.length) := by show _ = _; rw [hO.len, List.length_take, negT_len, ← HN.out]; omega
      have hBw := Below.drew (Below.refl wr.heap.size wr)
      have hblt : b1 < w1.heap.size := hat1.lt (by rw [← HN.out]; omega)
      have HC6 := hide (fun (W : World) (k9 : Below w1.heap.size w1 W) (o9 : Nat) => show W.cell? ⟨b1, o9, none⟩ = wr.cell? ⟨b1, o9, none⟩ from ((bcell k9).1 b1 o9 hblt).trans ((bcell hb).1 b1 o9 hblt).symm)
      have HO := hide hO
      have HXA := hide hXa
      clear ht hz hO hXa
      go_wp2
      go_region_held3 (fun w' => w'.cell? ⟨w.heap.size, 1, none⟩ = some (.slice (some ⟨b1, off1, none⟩) n c) ∧ w'.cell? ⟨b1, off1 + k * 2, none⟩ = some (.int .u64 (t.1.toNat : Int)) ∧ w'.cell? ⟨b1, off1 + k * 2 + 1, none⟩ = some (.slice ea en ec)) (go_keep)
        (first
          | (go_at_call 50; go_must ((with_reducible refine (HNW.out _).mono ?_); rintro v w5 ⟨rfl, hb5⟩; have hB5 := hBw.trans (hb5.mono hBw.size); have y0 := cell_later hB5 t0; have y1 := cell_later hB5 t1; obtain ⟨v0, v1, v2, v3⟩ := (HXA.out.belowN hB5).c2; have hz5 := hB5.size; have hO5 := HO.out.belowN hB5))
          | (refine step_pushAll tyT (hO5.out.alloc _) (l2 := [(⟨z, ea, en, ec⟩ : TmH)]) (At.ofBlk (Blk.new w5 _ #[.int .u64 (z.toNat : Int), .slice ea en ec]) _ rfl) rfl rfl rfl rfl HHL.out rfl (by simp; omega) (by omega) (by decide) ?_; intro a6 c6 w6 hown6 hg6 hcs6; have hbx9 := below_box w5 (.cells #[.int .u64 (z.toNat : Int), .slice ea en ec] 57); have hb9 := (hb.trans (hB5.mono hzr)).trans (hbx9.mono (by omega)); have hB6 := below_push hb9 (hO5.out.alloc _) hg6 (by simp; omega); have y2 := (HC6.out _ hB6 _).trans t0; have y3 := (HC6.out _ hB6 _).trans t1; obtain ⟨v4, v5, v6, v7⟩ := (hX6.belowN hB6).c2))
      have hrow9 : TmH.of (w5.alloc (.cells #[.int .u64 (z.toNat : Int), .slice ea en ec] 57)) ⟨z, ea, en, ec⟩ (z, t.2) := ⟨rfl, hrow.out.2.1, hrow.out.2.2.1, hrow.out.2.2.2.1, (hrow.out.2.2.2.2.belowN hB5).belowN (below_box _ _)⟩
      have hOT := (hO5.belowN (below_box w5 (.cells #[.int .u64 (z.toNat : Int), .slice ea en ec] 57))).push hown6 hg6 hcs6 (y := ⟨z, ea, en, ec⟩) (t := (z, t.2)) hrow9 (fun hne => by
        obtain ⟨q, e1, e3, e4⟩ := hfar.out hne
        refine ⟨fun e => ?_, fun q' e' => ?_⟩
        · have := (HO.out.out.blk q (by rw [← e]; exact e1)).1
          omega
        · have : q = q' := Option.some.inj (e1.symm.trans e')
          omega)
      rw [← HTK.out] at hOT
      go_wp2
      go_roundw
      case rel => exact ⟨k + 1, a6, c6, _, by go_num, by omega, rfl, hOT, hB6⟩
      case measure => simp [intOf]; omega
    · obtain rfl : k = n := by omega
      have hneg : (negT A).take k = negT A := List.take_of_length_le (by rw [negT_len, ← HN.out]; exact Nat.le_refl _)
      rw [hneg] at hO
      have hT := hO.out_ (n := k) (by rw [negT_len]; exact HN.out)
      have HMK2 := hide (HMK.out wr ao co _ hT)
      clear hneg
      go_wp2_with (go_at_call 16; go_must ((with_reducible refine (HMK2.out).mono ?_); rintro v w6 ⟨a6, n6, c6, rfl, hT6, hb6⟩; have hX9 := hXr.belowN hb6; obtain ⟨y0, y1, y2, y3⟩ := hX9.c2))
      have hF6 := (hX9.set_ 0 (.int .i64 V)).set_ 1 (.slice a6 n6 c6)
      refine bodyPost_ret (results_rowP rfl _ _ (w.heap.size + 1) _ #[.int .i64 V, .slice a6 n6 c6] (0, 0) _ rfl hF6 Try.underlying24 rfl (by kernel_rfl)) rfl ?_
      exact PolyOut.stored (hBr.trans (hb6.mono hBr.size)) hT6 (by omega) hXr.lt hBr.size
theorem PNeg_calls (P : Nat → Prop) (va : Int) (a : Option Addr) (n c : Nat) (A : List Tm) (w : World) (h : TOut P w a n c A) (hl : n ≤ 1000000) (hll : ∀ t ∈ A, t.2.length ≤ 1000000) (V : Int) (L : List Tm) (E : Int) (hV : resV (checkP va A) va (negT A) = V) (hL : resL (checkP va A) va (negT A) = L) (hE : resE (checkP va A) va (negT A) = E) :
    Calls Try.prog 30 #[.agg #[.int .i64 va, .slice a n c]] w (PolyOut V L E w) := by
  cases hok : checkP va A with
  | false =>
    rw [hok] at hV hL hE
    subst hV hL hE
    exact PNeg_bad P va a n c A w h hl hll hok
  | true =>
    rw [hok] at hV hL hE
    exact PNeg_good P va a n c A w h hok V L E hV hL hE
theorem RNeg3_calls (P : Nat → Prop) (va : Int) (a : Option Addr) (n c : Nat) (A : List Tm) (w : World) (h : TOut P w a n c A) (hl : n ≤ 1000000) (hll : ∀ t ∈ A, t.2.length ≤ 1000000) (V : Int) (L : List Tm) (E : Int) (hV : resV (checkP va A) va (negT A) = V) (hL : resL (checkP va A) va (negT A) = L) (hE : resE (checkP va A) va (negT A) = E) :
    Calls Try.prog 31 #[.agg #[.int .i64 va, .slice a n c]] w (PolyOut V L E w) := by
  cases hok : checkP va A with
  | false =>
    rw [hok] at hV hL hE
    subst hV hL hE
    exact RNeg3_bad P va a n c A w h hl hll hok
  | true =>
    rw [hok] at hV hL hE
    exact RNeg3_good P va a n c A w h hok V L E hV hL hE
end Go.Proofs.Ytcamcnahkdiefaa
