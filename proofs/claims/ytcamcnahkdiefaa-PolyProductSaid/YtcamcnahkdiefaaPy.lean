/- Derivatives of both sides. -/
import Derived.Test.YtcamcnahkdiefaaPx
import Derived.Test.YtcamcnahkdiefaaQb
namespace Go.Proofs.Ytcamcnahkdiefaa
set_option linter.unusedVariables false
set_option linter.unusedSimpArgs false
open Go.RowKit
/-- a term's derivative -/
def drv1 (i : Nat) (t : Tm) : List Tm := if 0 < t.2.getD i 0 then [(t.1 * UInt64.ofNat (t.2.getD i 0).toNat, t.2.set i (t.2.getD i 0 - 1))] else []
def drvT (i : Nat) (l : List Tm) : List Tm := l.flatMap (drv1 i)
theorem drvT_take {i : Nat} {l : List Tm} {k : Nat} {t : Tm} (h : l[k]? = some t) : drvT i (l.take (k + 1)) = drvT i (l.take k) ++ drv1 i t := by
  unfold drvT
  rw [List.take_add_one, h, List.flatMap_append]; simp
theorem drv1_len (i : Nat) (t : Tm) : (drv1 i t).length ≤ 1 := by
  unfold drv1; split <;> simp
theorem drvT_len (i : Nat) (l : List Tm) : (drvT i l).length ≤ l.length := by
  induction l with
  | nil => simp [drvT]
  | cons t l ih =>
    have h1 := drv1_len i t
    have : drvT i (t :: l) = drv1 i t ++ drvT i l := rfl
    rw [this, List.length_append, List.length_cons]; omega
theorem drv1_right {vars : Int} {i : Nat} {t : Tm} (h : rightT vars t.2 = true) : ∀ s ∈ drv1 i t, rightT vars s.2 = true := by
  intro s hs
  unfold drv1 at hs
  split at hs
  · rename_i h0
    simp at hs
    subst hs
    have hl := rightT_len h
    have hi := rightT_in h
    refine rightT_mk (by rw [List.length_set]; exact hl) fun x hx => ?_
    rcases List.mem_or_eq_of_mem_set hx with hx | hx
    · exact hi x hx
    · have hlt : i < t.2.length := by
        refine Decidable.by_contra fun hn => ?_
        have h1 : t.2.getD i 0 = 0 := by rw [List.getD_eq_getElem?_getD, List.getElem?_eq_none (by omega)]; rfl
        have h0' : 0 < t.2.getD i 0 := h0
        omega
      have hm : t.2.getD i 0 ∈ t.2 := by
        rw [List.getD_eq_getElem?_getD, List.getElem?_eq_getElem hlt]; exact List.getElem_mem hlt
      have h9 := hi _ hm
      have e9 : t.2.getD i 0 = t.2[i]?.getD 0 := List.getD_eq_getElem?_getD
      omega
  · simp at hs
theorem drvT_right {vars : Int} {i : Nat} {l : List Tm} (h : rightL vars l = true) : rightL vars (drvT i l) = true := by
  refine List.all_eq_true.2 fun s hs => ?_
  obtain ⟨t, ht, hs⟩ := List.mem_flatMap.1 hs
  exact drv1_right (List.all_eq_true.1 h t ht) s hs
theorem drv1_pos {i : Nat} {t : Tm} {q : UInt64} (h : t.2[i]? = some (q.toNat : Int)) (h0 : 0 < q.toNat) : drv1 i t = [(t.1 * q, t.2.set i ((q.toNat : Int) - 1))] := by
  have e : t.2.getD i 0 = (q.toNat : Int) := by rw [List.getD_eq_getElem?_getD, h]; rfl
  unfold drv1
  rw [e, if_pos (by omega), Int.toNat_natCast, UInt64.ofNat_toNat]
theorem drv1_zero {i : Nat} {t : Tm} {q : UInt64} (h : t.2[i]? = some (q.toNat : Int)) (h0 : ¬ 0 < q.toNat) : drv1 i t = [] := by
  have e : t.2.getD i 0 = (q.toNat : Int) := by rw [List.getD_eq_getElem?_getD, h]; rfl
  unfold drv1
  rw [e, if_neg (by omega)]
set_option maxRecDepth 100000 in
set_option maxHeartbeats 3200000 in
theorem PDrv_bad (P : Nat → Prop) (va i : Int) (a : Option Addr) (n c : Nat) (A : List Tm) (w : World) (h : TOut P w a n c A) (hl : n ≤ 1000000) (hll : ∀ t ∈ A, t.2.length ≤ 1000000) (hok : drvOk va A i = false) :
    Calls Try.prog 10 #[.agg #[.int .i64 va, .slice a n c], .int .i64 i] w (PolyOut 0 [] 2 w) := by
  obtain ⟨hX1, hX3, hb0, hz0⟩ := two_boxes w 24 24 #[.int .i64 va, .slice a n c] #[.int .i64 0, .slice none 0 0]
  obtain ⟨W0, hW0⟩ : ∃ W0, (w.alloc (.cells #[.int .i64 va, .slice a n c] 24)).alloc (.cells #[.int .i64 0, .slice none 0 0] 24) = W0 := ⟨_, rfl⟩
  rw [hW0] at hX1 hX3 hb0 hz0
  obtain ⟨Q, hQ⟩ : ∃ Q, checkP va A = Q := ⟨_, rfl⟩
  unfold drvOk at hok
  rw [hQ] at hok
  have HCA := hide (Check_calls va a n c A h.len W0 (h.at_.at_.belowN hb0) hl hll Q hQ)
  obtain ⟨p0, p1, p2, p3⟩ := hX1.c2
  have HW0 := hide hW0
  clear hQ h hll hW0
  cases Q with
  | false =>
    clear hok
    go_enter Try.func10, Try.ntmps10
    go_wp2_with (go_at_call 21; go_must ((rw [HW0.out]); (with_reducible refine (HCA.out).mono ?_); rintro v w1 ⟨rfl, hb1⟩; have hX5 := hX3.belowN hb1; obtain ⟨x0, x1, x2, x3⟩ := hX5.c2))
    have hF6 := (hX5.set_ 0 (.int .i64 0)).set_ 1 (.slice none 0 0)
    refine bodyPost_ret (results_rowP rfl _ _ (w.heap.size + 1) _ #[.int .i64 0, .slice none 0 0] (0, 0) _ rfl hF6 Try.underlying24 rfl (by kernel_rfl)) rfl ?_
    have hB5 := hb0.trans (hb1.mono hb0.size)
    exact PolyOut.bad _ _ _ ((hB5.setCell (p := ⟨w.heap.size + 1, 0, none⟩) (by show _ ≤ w.heap.size + 1; omega) (.int .i64 0)).setCell (p := ⟨w.heap.size + 1, 1, none⟩) (by show _ ≤ w.heap.size + 1; omega) (.slice none 0 0))
  | true =>
    have hbad : i < 0 ∨ va ≤ i := by
      simp at hok
      by_cases h1 : i < 0
      · exact .inl h1
      · exact .inr (hok (by omega))
    clear hok
    by_cases h1 : i < 0
    · clear hbad
      go_enter Try.func10, Try.ntmps10
      go_wp2_with (go_at_call 21; go_must ((rw [HW0.out]); (with_reducible refine (HCA.out).mono ?_); rintro v w1 ⟨rfl, hb1⟩; have hX5 := hX3.belowN hb1; obtain ⟨x0, x1, x2, x3⟩ := hX5.c2))
      have hF6 := (hX5.set_ 0 (.int .i64 0)).set_ 1 (.slice none 0 0)
      refine bodyPost_ret (results_rowP rfl _ _ (w.heap.size + 1) _ #[.int .i64 0, .slice none 0 0] (0, 0) _ rfl hF6 Try.underlying24 rfl (by kernel_rfl)) rfl ?_
      have hB5 := hb0.trans (hb1.mono hb0.size)
      exact PolyOut.bad _ _ _ ((hB5.setCell (p := ⟨w.heap.size + 1, 0, none⟩) (by show _ ≤ w.heap.size + 1; omega) (.int .i64 0)).setCell (p := ⟨w.heap.size + 1, 1, none⟩) (by show _ ≤ w.heap.size + 1; omega) (.slice none 0 0))
    · have h2 : va ≤ i := by omega
      clear hbad
      go_enter Try.func10, Try.ntmps10
      go_wp2_with (go_at_call 21; go_must ((rw [HW0.out]); (with_reducible refine (HCA.out).mono ?_); rintro v w1 ⟨rfl, hb1⟩; have hX5 := hX3.belowN hb1; obtain ⟨x0, x1, x2, x3⟩ := hX5.c2; obtain ⟨r0, r1, r2, r3⟩ := (hX1.belowN hb1).c2))
      have hF6 := (hX5.set_ 0 (.int .i64 0)).set_ 1 (.slice none 0 0)
      refine bodyPost_ret (results_rowP rfl _ _ (w.heap.size + 1) _ #[.int .i64 0, .slice none 0 0] (0, 0) _ rfl hF6 Try.underlying24 rfl (by kernel_rfl)) rfl ?_
      have hB5 := hb0.trans (hb1.mono hb0.size)
      exact PolyOut.bad _ _ _ ((hB5.setCell (p := ⟨w.heap.size + 1, 0, none⟩) (by show _ ≤ w.heap.size + 1; omega) (.int .i64 0)).setCell (p := ⟨w.heap.size + 1, 1, none⟩) (by show _ ≤ w.heap.size + 1; omega) (.slice none 0 0))
set_option maxRecDepth 100000 in
set_option maxHeartbeats 3200000 in
theorem RDrv_bad (P : Nat → Prop) (va i : Int) (a : Option Addr) (n c : Nat) (A : List Tm) (w : World) (h : TOut P w a n c A) (hl : n ≤ 1000000) (hll : ∀ t ∈ A, t.2.length ≤ 1000000) (hok : drvOk va A i = false) :
    Calls Try.prog 11 #[.agg #[.int .i64 va, .slice a n c], .int .i64 i] w (PolyOut 0 [] 2 w) := by
  obtain ⟨hX1, hX3, hb0, hz0⟩ := two_boxes w 24 24 #[.int .i64 va, .slice a n c] #[.int .i64 0, .slice none 0 0]
  obtain ⟨W0, hW0⟩ : ∃ W0, (w.alloc (.cells #[.int .i64 va, .slice a n c] 24)).alloc (.cells #[.int .i64 0, .slice none 0 0] 24) = W0 := ⟨_, rfl⟩
  rw [hW0] at hX1 hX3 hb0 hz0
  obtain ⟨Q, hQ⟩ : ∃ Q, checkP va A = Q := ⟨_, rfl⟩
  unfold drvOk at hok
  rw [hQ] at hok
  have HCA := hide (RCheck_calls va a n c A h.len W0 (h.at_.at_.belowN hb0) hl hll Q hQ)
  obtain ⟨p0, p1, p2, p3⟩ := hX1.c2
  have HW0 := hide hW0
  clear hQ h hll hW0
  cases Q with
  | false =>
    clear hok
    go_enter Try.func11, Try.ntmps11
    go_wp2_with (go_at_call 22; go_must ((rw [HW0.out]); (with_reducible refine (HCA.out).mono ?_); rintro v w1 ⟨rfl, hb1⟩; have hX5 := hX3.belowN hb1; obtain ⟨x0, x1, x2, x3⟩ := hX5.c2))
    have hF6 := (hX5.set_ 0 (.int .i64 0)).set_ 1 (.slice none 0 0)
    refine bodyPost_ret (results_rowP rfl _ _ (w.heap.size + 1) _ #[.int .i64 0, .slice none 0 0] (0, 0) _ rfl hF6 Try.underlying24 rfl (by kernel_rfl)) rfl ?_
    have hB5 := hb0.trans (hb1.mono hb0.size)
    exact PolyOut.bad _ _ _ ((hB5.setCell (p := ⟨w.heap.size + 1, 0, none⟩) (by show _ ≤ w.heap.size + 1; omega) (.int .i64 0)).setCell (p := ⟨w.heap.size + 1, 1, none⟩) (by show _ ≤ w.heap.size + 1; omega) (.slice none 0 0))
  | true =>
    have hbad : i < 0 ∨ va ≤ i := by
      simp at hok
      by_cases h1 : i < 0
      · exact .inl h1
      · exact .inr (hok (by omega))
    clear hok
    by_cases h1 : i < 0
    · clear hbad
      go_enter Try.func11, Try.ntmps11
      go_wp2_with (go_at_call 22; go_must ((rw [HW0.out]); (with_reducible refine (HCA.out).mono ?_); rintro v w1 ⟨rfl, hb1⟩; have hX5 := hX3.belowN hb1; obtain ⟨x0, x1, x2, x3⟩ := hX5.c2))
      have hF6 := (hX5.set_ 0 (.int .i64 0)).set_ 1 (.slice none 0 0)
      refine bodyPost_ret (results_rowP rfl _ _ (w.heap.size + 1) _ #[.int .i64 0, .slice none 0 0] (0, 0) _ rfl hF6 Try.underlying24 rfl (by kernel_rfl)) rfl ?_
      have hB5 := hb0.trans (hb1.mono hb0.size)
      exact PolyOut.bad _ _ _ ((hB5.setCell (p := ⟨w.heap.size + 1, 0, none⟩) (by show _ ≤ w.heap.size + 1; omega) (.int .i64 0)).setCell (p := ⟨w.heap.size + 1, 1, none⟩) (by show _ ≤ w.heap.size + 1; omega) (.slice none 0 0))
    · have h2 : va ≤ i := by omega
      clear hbad
      go_enter Try.func11, Try.ntmps11
      go_wp2_with (go_at_call 22; go_must ((rw [HW0.out]); (with_reducible refine (HCA.out).mono ?_); rintro v w1 ⟨rfl, hb1⟩; have hX5 := hX3.belowN hb1; obtain ⟨x0, x1, x2, x3⟩ := hX5.c2; obtain ⟨r0, r1, r2, r3⟩ := (hX1.belowN hb1).c2))
      have hF6 := (hX5.set_ 0 (.int .i64 0)).set_ 1 (.slice none 0 0)
      refine bodyPost_ret (results_rowP rfl _ _ (w.heap.size + 1) _ #[.int .i64 0, .slice none 0 0] (0, 0) _ rfl hF6 Try.underlying24 rfl (by kernel_rfl)) rfl ?_
      have hB5 := hb0.trans (hb1.mono hb0.size)
      exact PolyOut.bad _ _ _ ((hB5.setCell (p := ⟨w.heap.size + 1, 0, none⟩) (by show _ ≤ w.heap.size + 1; omega) (.int .i64 0)).setCell (p := ⟨w.heap.size + 1, 1, none⟩) (by show _ ≤ w.heap.size + 1; omega) (.slice none 0 0))
set_option maxRecDepth 100000 in
set_option maxHeartbeats 6400000 in
theorem PDrv_good (P : Nat → Prop) (va : Int) (j : Nat) (hj : (j : Int) < va) (a : Option Addr) (n c : Nat) (A : List Tm) (w : World) (h : TOut P w a n c A) (hQ : checkP va A = true) (V : Int) (L : List Tm) (E : Int) (hV : mkV va (drvT j A) = V) (hL : mkL va (drvT j A) = L) (hE : mkE va (drvT j A) = E) :
    Calls Try.prog 10 #[.agg #[.int .i64 va, .slice a n c], .int .i64 (j : Int)] w (PolyOut V L E w) := by
  obtain ⟨hX1, hX3, hb0, hz0⟩ := two_boxes w 24 24 #[.int .i64 va, .slice a n c] #[.int .i64 0, .slice none 0 0]
  obtain ⟨W0, hW0⟩ : ∃ W0, (w.alloc (.cells #[.int .i64 va, .slice a n c] 24)).alloc (.cells #[.int .i64 0, .slice none 0 0] 24) = W0 := ⟨_, rfl⟩
  rw [hW0] at hX1 hX3 hb0 hz0
  have hok := checkP_ok hQ
  have hn4 : n ≤ 4096 := by rw [h.len]; exact hok.len
  have HCA := hide (Check_calls va a n c A h.len W0 (h.at_.at_.belowN hb0) (by omega) hok.len6 true hQ)
  obtain ⟨p0, p1, p2, p3⟩ := hX1.c2
  have HW0 := hide hW0
  have HN := hide h.len
  have hat := h.at_.belowN hb0
  have HRT := hide hok.rt
  have HOK := hide hok
  have HV := hide hV
  have HL := hide hL
  have HE := hide hE
  have HH := hide (fun W => Heap_calls va.toNat va W)
  have j0 : ¬ (j : Int) < 0 := by omega
  have j1 : ¬ va ≤ (j : Int) := by omega
  have j2 : (0 : Int) ≤ (j : Int) := by omega
  clear hQ h hW0 hok hV hL hE
  go_enter Try.func10, Try.ntmps10
  go_wp2_with (first
    | (go_at_call 21; go_must ((rw [HW0.out]); (with_reducible refine (HCA.out).mono ?_); rintro v w1 ⟨rfl, hb1⟩; obtain ⟨r0, r1, r2, r3⟩ := (hX1.belowN hb1).c2))
    | (go_at_call 32; go_must ((with_reducible refine (HH.out _).mono ?_); rintro v w2 ⟨rfl, hH2, hb2⟩; have hB2 := hb1.trans (hb2.mono hb1.size); obtain ⟨s0, s1, s2, s3⟩ := (hX1.belowN hB2).c2)))
  obtain ⟨g, hg⟩ : ∃ g, g = w1.heap.size := ⟨_, rfl⟩
  rw [← hg] at hH2 ⊢
  have hX5 := hX3.belowN hb1
  have hgw : w.heap.size + 1 < g := by rw [hg]; exact hX5.lt
  have hBz := hb0.trans (hb1.mono hb0.size)
  have HG := hide hg
  have hat1 := hat.belowN hb1
  have hb2g : Below g w1 w2 := by rw [hg]; exact hb2
  clear hg HH HCA hb2 hB2
  go_loopw [35] (fun iv wr => ∃ k : Nat, iv = .int .i64 k ∧ k ≤ n ∧ HeapT wr g va va.toNat (drvT j (A.take k)) ∧ Below g w1 wr) (fun iv _ => n - (intOf iv).toNat)
  case atStart => exact ⟨0, rfl, by omega, hH2, hb2g⟩
  case round =>
    obtain ⟨k, rfl, hk, hH, hbr⟩ := hrel
    have hbX : Below w1.heap.size w1 wr := hbr.mono (by rw [HG.out]; exact Nat.le_refl _)
    have hzr := hH.lt
    have hXr := hX5.belowN hbX
    have hBr := hBz.trans (hbX.mono hBz.size)
    obtain ⟨x0, x1, x2, x3⟩ := hXr.c2
    by_cases hlt : k < n
    · obtain ⟨b1, off1, t, ea, en, ec, rfl, ht, t0, t1, hrow, hfar⟩ := hat1.getF hbX (k := k) (by rw [← HN.out]; exact hlt)
      have hk0 : (0 : Int) ≤ (k : Int) := by omega
      have hk1 : (k : Int) < (n : Int) := by omega
      have hen : en = t.2.length := hrow.out.2.1
      have hrt := HRT.out t (List.mem_of_getElem? ht.out)
      have hlen := rightT_len hrt
      have hv := HOK.out.n64
      have hbx := below_box wr (.cells #[.int .u64 (t.1.toNat : Int), .slice ea en ec] 57)
      have hT := Blk.new wr 57 #[.int .u64 (t.1.toNat : Int), .slice ea en ec]
      obtain ⟨r0, r1, r2, r3⟩ := hT.c2
      have hea := hrow.out.2.2.2.2.belowN hbx
      have hjl : j < t.2.length := by omega
      obtain ⟨b2, off2, p, hea2, hp, p0⟩ := hea.getI (Below.refl _ _) (k := j) hjl
      subst hea2
      have hpr := rightT_in hrt p (List.mem_of_getElem? hp.out)
      obtain ⟨q, rfl⟩ : ∃ q : UInt64, p = (q.toNat : Int) := ⟨UInt64.ofNat p.toNat, by rw [UInt64.toNat_ofNat']; omega⟩
      have HTK := hide (drvT_take (i := j) ht.out)
      have hjn : (j : Int) < (en : Int) := by omega
      by_cases hp0 : 0 < q.toNat
      case neg =>
        rw [drv1_zero hp.out hp0, List.append_nil] at HTK
        have e1 : ¬ (0 : Int) < (q.toNat : Int) := by omega
        clear ht hen hlen hrt hp hp0
        go_wp2
        go_roundw
        case rel => exact ⟨k + 1, by go_num, by omega, by rw [HTK.out]; exact hH.belowN hbx, hbr.alloc (by omega) _⟩
        case measure => simp [intOf]; omega
      case pos =>
        rw [drv1_pos hp.out hp0] at HTK
        have e1 : (0 : Int) < (q.toNat : Int) := by omega
        have HCL := hide (CloneI_calls (some ⟨b2, off2, none⟩) en ec t.2 _ hen hea (by omega))
        have hdl : (drvT j (A.take k)).length ≤ 4096 := by
          have h1 := drvT_len j (A.take k)
          rw [List.length_take] at h1
          omega
        have hrt2 := drv1_right (i := j) hrt _ (by rw [drv1_pos hp.out hp0]; exact List.mem_singleton.2 rfl)
        have HMU := hide (u64_mul t.1 q)
        have hcv : IntKind.u64.wrap (q.toNat : Int) = (q.toNat : Int) := IntWalk.u64_in _ (by omega)
        have HPT := hide (fun (W : World) (ae : Option Addr) (ce : Nat) (k1 : HeapT W g va va.toNat (drvT j (A.take k))) (k2 : At W ae (t.2.set j ((q.toNat : Int) - 1))) => Put_calls W g va va.toNat (drvT j (A.take k)) k1 (by omega) (t.1 * q, t.2.set j ((q.toNat : Int) - 1)) ae en ce (by simpa using hen) (by simp; omega) (by omega) (rightT_in hrt2) k2)
        have hq9 : q.toNat ≤ 65535 := by omega
        have hjl2 : j < t.2.length := hjl
        have HP := hide hp.out
        have hHx := hH.belowN hbx
        clear ht hen hlen hrt hp hp0 hrt2 hpr
        go_wp2_with (first
          | (go_at_call 33; go_must ((with_reducible refine (HCL.out).mono ?_); rintro v w5 ⟨a5, c5, rfl, hown5, hb5⟩; have hne5 := hown5.some_ (by rintro e; rw [e] at hjl2; simp at hjl2); obtain ⟨g5, rfl, hg51, hg52⟩ := hne5; have hz5 := hb5.size; rw [World.size_alloc] at hg51 hz5; obtain ⟨s4, s5, s6, s7⟩ := (hT.belowN hb5).c2; have hfz := hown5.frozen j; obtain ⟨z9, zu, hz1, hz2, hz3⟩ := hown5.cell1 (i := j) hjl2 rfl; have hz4 : zu = .int .i64 (q.toNat : Int) := (by have e9 : z9 = (q.toNat : Int) := Option.some.inj (hz1.symm.trans HP.out); rw [e9] at hz2; simpa [Flat.enc] using hz2.symm); rw [hz4] at hz3; have hown6 := hown5.set1 j ((q.toNat : Int) - 1) (.int .i64 ((q.toNat : Int) - 1)) rfl; obtain ⟨s8, s9, sA, sB⟩ := ((hT.belowN hb5).far (p := ⟨g5, j, none⟩) (by simp; omega) (.int .i64 ((q.toNat : Int) - 1))).c2; have hH5 := (hHx.belowN hb5).grown (grown_setCell w5 g5 j (.int .i64 ((q.toNat : Int) - 1))) (fun i hi => by cases hi; omega); clear hz1 hz2 hz4))
          | (go_at_call 51; go_must ((rw [HMU.out]); (with_reducible refine (HPT.out _ _ _ hH5 hown6.at_).mono ?_); rintro v w6 ⟨rfl, hH6, hg6⟩)))
        go_roundw
        case rel => exact ⟨k + 1, by go_num, by omega, by rw [HTK.out]; exact hH6, (((hbr.alloc (by omega) _).trans (hb5.mono (by rw [World.size_alloc]; omega))).setCell (p := ⟨g5, j, none⟩) (by show g ≤ g5; omega) _).grown hg6 (by rw [World.size_setCell]; omega) (fun j hj => by cases hj; omega)⟩
        case measure => simp [intOf]; omega
    · obtain rfl : k = n := by omega
      have htk : A.take k = A := List.take_of_length_le (by rw [← HN.out]; exact Nat.le_refl _)
      rw [htk] at hH
      have hP2 := drvT_right (i := j) HOK.out.right
      have hdl := drvT_len j A
      have hal := HOK.out.len
      obtain ⟨q1, q2, q3⟩ := mk_ok HOK.out.range hP2
      have HA := hide (All_calls wr g va va.toNat (drvT j A) hH (by omega) (LenT.of_right (List.all_eq_true.1 hP2)) (rightL_in hP2) (by have := HOK.out.n64; omega) V L E (by rw [← q2, HV.out]) (by rw [← q3, HL.out]) (by rw [← q1, HE.out]))
      clear hP2 q1 q2 q3 htk hdl hal
      go_wp2_with (go_at_call 53; go_must ((with_reducible refine (HA.out).mono ?_); rintro v w6 ⟨a6, n6, c6, rfl, hT6, hb6⟩; have hX6 := hXr.belowN hb6; obtain ⟨y0, y1, y2, y3⟩ := hX6.c2))
      have hF6 := (hX6.set_ 0 (.int .i64 V)).set_ 1 (.slice a6 n6 c6)
      refine bodyPost_ret (results_rowP rfl _ _ (w.heap.size + 1) _ #[.int .i64 V, .slice a6 n6 c6] (0, 0) _ rfl hF6 Try.underlying24 rfl (by kernel_rfl)) rfl ?_
      exact PolyOut.stored (hBr.trans (hb6.mono hBr.size)) hT6 (by omega) hXr.lt hBr.size
set_option maxRecDepth 100000 in
set_option maxHeartbeats 6400000 in
theorem RDrv_good (P : Nat → Prop) (va : Int) (j : Nat) (hj : (j : Int) < va) (a : Option Addr) (n c : Nat) (A : List Tm) (w : World) (h : TOut P w a n c A) (hQ : checkP va A = true) (V : Int) (L : List Tm) (E : Int) (hV : mkV va (drvT j A) = V) (hL : mkL va (drvT j A) = L) (hE : mkE va (drvT j A) = E) :
    Calls Try.prog 11 #[.agg #[.int .i64 va, .slice a n c], .int .i64 (j : Int)] w (PolyOut V L E w) := by
  obtain ⟨hX1, hX3, hb0, hz0⟩ := two_boxes w 24 24 #[.int .i64 va, .slice a n c] #[.int .i64 0, .slice none 0 0]
  obtain ⟨W0, hW0⟩ : ∃ W0, (w.alloc (.cells #[.int .i64 va, .slice a n c] 24)).alloc (.cells #[.int .i64 0, .slice none 0 0] 24) = W0 := ⟨_, rfl⟩
  rw [hW0] at hX1 hX3 hb0 hz0
  have hok := checkP_ok hQ
  have hn4 : n ≤ 4096 := by rw [h.len]; exact hok.len
  have HCA := hide (RCheck_calls va a n c A h.len W0 (h.at_.at_.belowN hb0) (by omega) hok.len6 true hQ)
  obtain ⟨p0, p1, p2, p3⟩ := hX1.c2
  have HW0 := hide hW0
  have HN := hide h.len
  have hat := h.at_.belowN hb0
  have HRT := hide hok.rt
  have hv := hok.n64
  have hvv := hok.v
  have h6 : ∀ t ∈ drvT j A, t.2.length ≤ 1000000 := fun t ht => by
    have := rightT_len (List.all_eq_true.1 (drvT_right (i := j) hok.right) t ht)
    omega
  have hdl9 := drvT_len j A
  have hal9 := hok.len
  have HMK := hide (fun (W : World) (a3 : Option Addr) (n3 c3 : Nat) (R : Nat → Prop) (k : TOut R W a3 n3 c3 (drvT j A)) => RMake_calls R va a3 n3 c3 (drvT j A) W k (by rw [k.len]; omega) h6 V L E hV hL hE)
  have j0 : ¬ (j : Int) < 0 := by omega
  have j1 : ¬ va ≤ (j : Int) := by omega
  have j2 : (0 : Int) ≤ (j : Int) := by omega
  clear hQ h hW0 hok hV hL hE h6 hdl9 hal9 hvv
  go_enter Try.func11, Try.ntmps11
  go_wp2_with (go_at_call 22; go_must ((rw [HW0.out]); (with_reducible refine (HCA.out).mono ?_); rintro v w1 ⟨rfl, hb1⟩; obtain ⟨r0, r1, r2, r3⟩ := (hX1.belowN hb1).c2))
  have hX5 := hX3.belowN hb1
  have hX6 := hX1.belowN hb1
  have hBz := hb0.trans (hb1.mono hb0.size)
  have hat1 := hat.belowN hb1
  have hO1 := OwnT.nil (P := fun _ => True) (Own.new w1 (Nat.le_refl _) 57 TmH)
  have hbN := below_box w1 (.cells #[] 57)
  clear HCA
  go_loopw [6, 7] (fun ov iv wr => ∃ (k o : Nat) (ao : Option Addr) (co : Nat) (hs : List TmH), iv = .int .i64 k ∧ k ≤ n ∧ ov = .slice ao o co ∧ Hid (o = (drvT j (A.take k)).length) ∧ OwnT (fun _ => True) wr w1.heap.size ao co hs (drvT j (A.take k)) ∧ Below w1.heap.size w1 wr) (fun _ iv _ => n - (intOf iv).toNat)
  case atStart => exact ⟨0, 0, _, _, [], rfl, by omega, rfl, rfl, hO1, hbN⟩
  case round =>
    obtain ⟨k, o, ao, co, hs, rfl, hk, rfl, ho, hO, hb⟩ := hrel
    have hzr := hb.size
    have hXr := hX5.belowN hb
    have hXa := hX6.belowN hb
    have hBr := hBz.trans (hb.mono hBz.size)
    obtain ⟨x0, x1, x2, x3⟩ := hXr.c2
    obtain ⟨z0, z1, z2, z3⟩ := hXa.c2
    by_cases hlt : k < n
    · obtain ⟨b1, off1, t, ea, en, ec, rfl, ht, t0, t1, hrow, hfar⟩ := hat1.getF hb (k := k) (by rw [← HN.out]; exact hlt)
      have hk0 : (0 : Int) ≤ (k : Int) := by omega
      have hk1 : (k : Int) < (n : Int) := by omega
      have hen : en = t.2.length := hrow.out.2.1
      have hrt := HRT.out t (List.mem_of_getElem? ht.out)
      have hlen := rightT_len hrt
      have hjl : j < t.2.length := by omega
      have hjn : (j : Int) < (en : Int) := by omega
      obtain ⟨p, hp⟩ : ∃ p, t.2[j]? = some p := ⟨_, List.getElem?_eq_getElem hjl⟩
      have hpr := rightT_in hrt p (List.mem_of_getElem? hp)
      obtain ⟨q, rfl⟩ : ∃ q : UInt64, p = (q.toNat : Int) := ⟨UInt64.ofNat p.toNat, by rw [UInt64.toNat_ofNat']; omega⟩
      have hq9 : q.toNat ≤ 65535 := by omega
      have HTK := hide (drvT_take (i := j) ht.out)
      have HCP := hide (Copied_calls ea en ec t.2 hen wr hrow.out.2.2.2.2 (by omega))
      have ho4 : o ≤ 4096 := by
        have h1 := drvT_len j (A.take k)
        rw [List.length_take] at h1
        have := ho.out
        omega
      have HHL : Hid (o = hs.length) := by show _ = _; rw [hO.len]; exact ho.out
      have hblt : b1 < w1.heap.size := hat1.lt (by rw [← HN.out]; omega)
      have HC6 := hide (fun (W : World) (k9 : Below w1.heap.size w1 W) (o9 : Nat) => show W.cell? ⟨b1, o9, none⟩ = wr.cell? ⟨b1, o9, none⟩ from ((bcell k9).1 b1 o9 hblt).trans ((bcell hb).1 b1 o9 hblt).symm)
      have HO := hide hO
      have HXA := hide hXa
      have HP := hide hp
      have HEN := hide hen
      have hen6 : en ≤ 9223372036854775807 := by omega
      by_cases hp0 : 0 < q.toNat
      case neg =>
        rw [drv1_zero hp hp0, List.append_nil] at HTK
        have e1 : ¬ (0 : Int) < (q.toNat : Int) := by omega
        clear ht hO hXa hp hp0 hen hlen hrt hpr
        go_wp2_with (go_at_call 34; go_must ((with_reducible refine (HCP.out).mono ?_); rintro v w5 ⟨a5, c5, rfl, hown5, hb5⟩; have hne5 := hown5.some_ (by rintro e; rw [e] at hjl; simp at hjl); obtain ⟨g5, rfl, hg51, hg52⟩ := hne5; obtain ⟨z9, zu, hz1, hz2, hz3⟩ := hown5.cell1 (i := j) hjl rfl; have hz4 : zu = .int .i64 (q.toNat : Int) := (by have e9 : z9 = (q.toNat : Int) := Option.some.inj (hz1.symm.trans HP.out); rw [e9] at hz2; simpa [Flat.enc] using hz2.symm); rw [hz4] at hz3; clear hz1 hz2 hz4))
        go_roundw
        case rel => exact ⟨k + 1, o, ao, co, hs, by go_num, by omega, rfl, by rw [HTK.out]; exact ho.out, by rw [HTK.out]; exact HO.out.belowN hb5, hb.trans (hb5.mono hzr)⟩
        case measure => simp [intOf]; omega
      case pos =>
        rw [drv1_pos hp hp0] at HTK
        have e1 : (0 : Int) < (q.toNat : Int) := by omega
        obtain ⟨z, hz⟩ : ∃ z, t.1 * q = z := ⟨_, rfl⟩
        have HNW := hide (fun W => Times_calls t.1 q W)
        rw [hz] at HNW HTK
        have hcv : IntKind.u64.wrap (q.toNat : Int) = (q.toNat : Int) := IntWalk.u64_in _ (by omega)
        clear ht hO hXa hp hp0 hen hlen hrt hpr hz
        go_wp2_with (first
          | (go_at_call 34; go_must ((with_reducible refine (HCP.out).mono ?_); rintro v w5 ⟨a5, c5, rfl, hown5, hb5⟩; have hne5 := hown5.some_ (by rintro e; rw [e] at hjl; simp at hjl); obtain ⟨g5, rfl, hg51, hg52⟩ := hne5; have hz5 := hb5.size; have hfz := hown5.frozen j; obtain ⟨z9, zu, hz1, hz2, hz3⟩ := hown5.cell1 (i := j) hjl rfl; have hz4 : zu = .int .i64 (q.toNat : Int) := (by have e9 : z9 = (q.toNat : Int) := Option.some.inj (hz1.symm.trans HP.out); rw [e9] at hz2; simpa [Flat.enc] using hz2.symm); rw [hz4] at hz3; have hown6 := hown5.set1 j ((q.toNat : Int) - 1) (.int .i64 ((q.toNat : Int) - 1)) rfl; have hb6 := (hb.trans (hb5.mono hzr)).setCell (p := ⟨g5, j, none⟩) (by show w1.heap.size ≤ g5; omega) (.int .i64 ((q.toNat : Int) - 1)); obtain ⟨v0, v1, v2, v3⟩ := (hX6.belowN hb6).c2; have y0 := (HC6.out _ hb6 _).trans t0; have y1 := (HC6.out _ hb6 _).trans t1; have hz6 := hb6.size; have hO6 := HO.out.belowN (hb5.setCell (p := ⟨g5, j, none⟩) hg51 (.int .i64 ((q.toNat : Int) - 1))); have hcap5 := hown5.cap; clear hz1 hz2 hz4))
          | (go_at_call 35; go_must ((with_reducible refine (HNW.out _).mono ?_); rintro v w7 ⟨rfl, hb7⟩; have hb67 := hb6.trans (hb7.mono hz6); have hz7 := hb67.size; have hO7 := hO6.belowN hb7))
          | (at_builtin; go_must (refine wpList_push tyT hO7.out (⟨z, some ⟨g5, 0, none⟩, en, c5⟩ : TmH) rfl rfl rfl rfl rfl rfl HHL.out hz7 (by omega) ?_; intro a3 c3 w3 hown3 hg3 hcs3)))
        have hrow9 : TmH.of w7 ⟨z, some ⟨g5, 0, none⟩, en, c5⟩ (z, t.2.set j ((q.toNat : Int) - 1)) :=
          ⟨rfl, by show en = _; rw [List.length_set]; exact HEN.out, by show en ≤ c5; rw [HEN.out]; exact hcap5.1, Nat.le_trans hcap5.2 (by decide), (hown6.belowN hb7).at_⟩
        have hOT := hO7.push hown3 hg3 hcs3 hrow9 (fun hne => ⟨fun e => by have h9 := (HO.out.out.blk g5 e.symm).2; omega, fun _ _ => trivial⟩)
        rw [← HTK.out] at hOT
        have hB3 := below_push hb67 hO7.out hg3 hz7
        go_roundw
        case rel => exact ⟨k + 1, o + 1, a3, c3, _, by go_num, by omega, by go_num, by show _ = _; rw [HTK.out, List.length_append, ← ho.out]; rfl, hOT, hB3⟩
        case measure => simp [intOf]; omega
    · obtain rfl : k = n := by omega
      have htk : A.take k = A := List.take_of_length_le (by rw [← HN.out]; exact Nat.le_refl _)
      rw [htk] at hO ho
      have hT := hO.out_ (n := o) ho.out
      have HMK2 := hide (HMK.out wr ao o co _ hT)
      clear htk
      go_wp2_with (go_at_call 16; go_must ((with_reducible refine (HMK2.out).mono ?_); rintro v w6 ⟨a6, n6, c6, rfl, hT6, hb6⟩; have hX9 := hXr.belowN hb6; obtain ⟨y0, y1, y2, y3⟩ := hX9.c2))
      have hF6 := (hX9.set_ 0 (.int .i64 V)).set_ 1 (.slice a6 n6 c6)
      refine bodyPost_ret (results_rowP rfl _ _ (w.heap.size + 1) _ #[.int .i64 V, .slice a6 n6 c6] (0, 0) _ rfl hF6 Try.underlying24 rfl (by kernel_rfl)) rfl ?_
      exact PolyOut.stored (hBr.trans (hb6.mono hBr.size)) hT6 (by omega) hXr.lt hBr.size
theorem drvOk_true {va i : Int} {A : List Tm} (h : drvOk va A i = true) : checkP va A = true ∧ ∃ j : Nat, i = j ∧ (j : Int) < va := by
  unfold drvOk at h
  simp only [Bool.and_eq_true, decide_eq_true_eq] at h
  exact ⟨h.1.1, i.toNat, by omega, by omega⟩
theorem PDrv_calls (P : Nat → Prop) (va i : Int) (a : Option Addr) (n c : Nat) (A : List Tm) (w : World) (h : TOut P w a n c A) (hl : n ≤ 1000000) (hll : ∀ t ∈ A, t.2.length ≤ 1000000) (V : Int) (L : List Tm) (E : Int) (hV : resV (drvOk va A i) va (drvT i.toNat A) = V) (hL : resL (drvOk va A i) va (drvT i.toNat A) = L) (hE : resE (drvOk va A i) va (drvT i.toNat A) = E) :
    Calls Try.prog 10 #[.agg #[.int .i64 va, .slice a n c], .int .i64 i] w (PolyOut V L E w) := by
  cases hok : drvOk va A i with
  | false =>
    rw [hok] at hV hL hE
    subst hV hL hE
    exact PDrv_bad P va i a n c A w h hl hll hok
  | true =>
    rw [hok] at hV hL hE
    obtain ⟨h1, j, rfl, hj⟩ := drvOk_true hok
    rw [Int.toNat_natCast] at hV hL hE
    exact PDrv_good P va j hj a n c A w h h1 V L E hV hL hE
theorem RDrv_calls (P : Nat → Prop) (va i : Int) (a : Option Addr) (n c : Nat) (A : List Tm) (w : World) (h : TOut P w a n c A) (hl : n ≤ 1000000) (hll : ∀ t ∈ A, t.2.length ≤ 1000000) (V : Int) (L : List Tm) (E : Int) (hV : resV (drvOk va A i) va (drvT i.toNat A) = V) (hL : resL (drvOk va A i) va (drvT i.toNat A) = L) (hE : resE (drvOk va A i) va (drvT i.toNat A) = E) :
    Calls Try.prog 11 #[.agg #[.int .i64 va, .slice a n c], .int .i64 i] w (PolyOut V L E w) := by
  cases hok : drvOk va A i with
  | false =>
    rw [hok] at hV hL hE
    subst hV hL hE
    exact RDrv_bad P va i a n c A w h hl hll hok
  | true =>
    rw [hok] at hV hL hE
    obtain ⟨h1, j, rfl, hj⟩ := drvOk_true hok
    rw [Int.toNat_natCast] at hV hL hE
    exact RDrv_good P va j hj a n c A w h h1 V L E hV hL hE
end Go.Proofs.Ytcamcnahkdiefaa
