/- Check of both sides. -/
import Derived.Test.YtcamcnahkdiefaaPb
namespace Go.Proofs.Ytcamcnahkdiefaa
set_option linter.unusedVariables false
set_option linter.unusedSimpArgs false
open Go.RowKit
theorem quietS {P : Program} {f : FuncId} {args : Array Value} {w w1 : World} {n : Nat} {v : Value}
    (h : Calls P f args w1 fun e w' => e = .returned v ∧ w1 = w') (e1 : w1 = w.drewN n) : Calls P f args w1 fun e w'' => e = .returned v ∧ ∃ m, w'' = w.drewN m :=
  h.mono fun _ _ ⟨he, hm⟩ => ⟨he, n, by rw [← hm, e1]⟩
theorem quietSA {P : Program} {f : FuncId} {args : Array Value} {w w1 : World} {a n : Nat} {v : Value}
    (h : Calls P f args w1 fun e w' => e = .returned v ∧ w1 = w') (e1 : w1 = w.drewN (a + n)) : Calls P f args w1 fun e w'' => e = .returned v ∧ ∃ m, w'' = w.drewN (a + m) :=
  h.mono fun _ _ ⟨he, hm⟩ => ⟨he, n, by rw [← hm, e1]⟩
theorem quietN {P : Program} {f : FuncId} {args : Array Value} {w : World} {n : Nat} {v : Value}
    (h : Calls P f args (w.drewN n) fun e w' => e = .returned v ∧ ∃ m, w' = (w.drewN n).drewN m) : Calls P f args (w.drewN n) fun e w'' => e = .returned v ∧ ∃ m, w'' = w.drewN m :=
  h.mono fun _ _ ⟨he, m, hm⟩ => ⟨he, n + m, by rw [hm, World.drewN_drewN]⟩
/-- terms that may be, behind powers -/
def okPrev : Option (List Int) → List Int → Bool
  | none, _ => true
  | some e, f => decide (ordR e f < 0)
def chkT (vars : Int) : Option (List Int) → List Tm → Bool
  | _, [] => true
  | pr, t :: l => (t.1 != 0) && rightT vars t.2 && okPrev pr t.2 && chkT vars (some t.2) l
def prevT (ts : List Tm) (k : Nat) : Option (List Int) := if k = 0 then none else (ts[k - 1]?).map (·.2)
/-- polynomials that may be -/
def checkP (vars : Int) (ts : List Tm) : Bool := decide (0 ≤ vars) && decide (vars ≤ 64) && decide (ts.length ≤ 4096) && chkT vars none ts
theorem prevT_succ {ts : List Tm} {k : Nat} {t : Tm} (h : ts[k]? = some t) : prevT ts (k + 1) = some t.2 := by
  unfold prevT; rw [if_neg (by omega), Nat.add_sub_cancel, h]; rfl
theorem chkT_canon {vars : Int} {n : Nat} (hn : (n : Int) = vars) : ∀ (pr : Option (List Int)) (l : List Tm), (∀ e, pr = some e → e.length = n) → chkT vars pr l = true → Canon n l ∧ (∀ t ∈ l, rightT vars t.2 = true) ∧ (∀ e, pr = some e → ∀ t ∈ l, ordR e t.2 < 0)
  | pr, [], _, _ => ⟨⟨List.Pairwise.nil, fun t ht => by simp at ht, fun t ht => by simp at ht⟩, fun t ht => by simp at ht, fun e _ t ht => by simp at ht⟩
  | pr, t :: l, hp, h => by
    rw [chkT] at h
    simp only [Bool.and_eq_true] at h
    obtain ⟨⟨⟨h1, h2⟩, h3⟩, h4⟩ := h
    have hl : t.2.length = n := by have := rightT_len h2; omega
    obtain ⟨c, r, o⟩ := chkT_canon hn (some t.2) l (fun e he => by injection he with he; rw [← he]; exact hl) h4
    have ho := o t.2 rfl
    refine ⟨⟨List.pairwise_cons.2 ⟨ho, c.srt⟩, ?_, ?_⟩, ?_, ?_⟩
    · intro s hs; rcases List.mem_cons.1 hs with rfl | hs
      · simpa using h1
      · exact c.nz s hs
    · intro s hs; rcases List.mem_cons.1 hs with rfl | hs
      · exact hl
      · exact c.len s hs
    · intro s hs; rcases List.mem_cons.1 hs with rfl | hs
      · exact h2
      · exact r s hs
    · intro e he s hs
      subst he
      have h5 : ordR e t.2 < 0 := by simpa [okPrev] using h3
      rcases List.mem_cons.1 hs with rfl | hs
      · exact h5
      · exact ordR_trans (by rw [hp e rfl, hl]) (by rw [hl, c.len s hs]) h5 (ho s hs)
theorem canon_chkT {vars : Int} {n : Nat} : ∀ (pr : Option (List Int)) (l : List Tm), Canon n l → (∀ t ∈ l, rightT vars t.2 = true) → (∀ e, pr = some e → ∀ t ∈ l, ordR e t.2 < 0) → chkT vars pr l = true
  | pr, [], _, _, _ => rfl
  | pr, t :: l, c, r, o => by
    rw [chkT, canon_chkT (some t.2) l c.tail (fun s hs => r s (List.mem_cons_of_mem _ hs)) (fun e he s hs => by injection he with he; rw [← he]; exact (List.pairwise_cons.1 c.srt).1 s hs), r t List.mem_cons_self]
    have h1 : (t.1 != 0) = true := by simpa using c.nz t List.mem_cons_self
    rw [h1]
    cases pr with
    | none => rfl
    | some e => simp [okPrev, o e rfl t List.mem_cons_self]
/-- what may be -/
structure OkP (vars : Int) (n : Nat) (ts : List Tm) : Prop where
  v : (n : Int) = vars
  n64 : n ≤ 64
  len : ts.length ≤ 4096
  can : Canon n ts
  rt : ∀ t ∈ ts, rightT vars t.2 = true
theorem checkP_ok {vars : Int} {ts : List Tm} (h : checkP vars ts = true) : OkP vars vars.toNat ts := by
  unfold checkP at h
  simp only [Bool.and_eq_true, decide_eq_true_eq] at h
  obtain ⟨⟨⟨h1, h2⟩, h3⟩, h4⟩ := h
  obtain ⟨c, r, _⟩ := chkT_canon (vars := vars) (n := vars.toNat) (by omega) none ts (fun e he => by cases he) h4
  exact ⟨by omega, by omega, h3, c, r⟩
theorem ok_checkP {vars : Int} {n : Nat} {ts : List Tm} (h : OkP vars n ts) : checkP vars ts = true := by
  unfold checkP
  rw [canon_chkT none ts h.can h.rt (fun e he => by cases he)]
  have h1 := h.v
  have h2 := h.n64
  have h3 := h.len
  simp only [Bool.and_eq_true, decide_eq_true_eq]
  exact ⟨⟨⟨by omega, by omega⟩, h3⟩, trivial⟩
set_option maxRecDepth 100000 in
set_option maxHeartbeats 3200000 in
theorem RCheck_calls (vars : Int) (a : Option Addr) (n c : Nat) (ts : List Tm) (hn : n = ts.length) (w : World) (h : AtT w a ts) (hl : n ≤ 1000000) (hll : ∀ t ∈ ts, t.2.length ≤ 1000000) (B : Bool) (hB : checkP vars ts = B) :
    Calls Try.prog 22 #[.agg #[.int .i64 vars, .slice a n c]] w fun v w' => v = .returned (.bool B) ∧ Below w.heap.size w w' := by
  have hb0 := below_box w (.cells #[.int .i64 vars, .slice a n c] 24)
  have hX := Blk.new w 24 #[.int .i64 vars, .slice a n c]
  unfold checkP at hB
  rw [← hn] at hB
  by_cases hbad : vars < 0 ∨ 64 < vars ∨ 4096 < n
  · have hBF : B = false := by
      rw [← hB]
      rcases hbad with q | q | q
      · rw [decide_eq_false (show ¬ 0 ≤ vars by omega)]; rfl
      · rw [decide_eq_false (show ¬ vars ≤ 64 by omega), Bool.and_false]; rfl
      · rw [decide_eq_false (show ¬ n ≤ 4096 by omega), Bool.and_false]; rfl
    subst hBF
    clear hB hn
    by_cases h1 : vars < 0
    · go_enter Try.func22, Try.ntmps22
      go_wp2
      go_ret
      exact ⟨rfl, hb0⟩
    · by_cases h2 : 64 < vars
      · go_enter Try.func22, Try.ntmps22
        go_wp2
        go_ret
        exact ⟨rfl, hb0⟩
      · have h3 : (4096 : Int) < (n : Int) := by omega
        clear hbad
        go_enter Try.func22, Try.ntmps22
        go_wp2
        go_ret
        exact ⟨rfl, hb0⟩
  · have h1 : ¬ vars < 0 := by omega
    have h2 : ¬ 64 < vars := by omega
    have h3 : ¬ (4096 : Int) < (n : Int) := by omega
    rw [decide_eq_true (show 0 ≤ vars by omega), decide_eq_true (show vars ≤ 64 by omega), decide_eq_true (show n ≤ 4096 by omega)] at hB
    have HB : Hid (chkT vars (prevT ts 0) (ts.drop 0) = B) := by show _ = B; rw [← hB]; rfl
    have HN := hide hn
    have HLL := hide hll
    clear hB hn hbad hll
    obtain ⟨w0, hw0⟩ : ∃ w0, w0 = w.alloc (.cells #[.int .i64 vars, .slice a n c] 24) := ⟨_, rfl⟩
    go_enter Try.func22, Try.ntmps22
    go_wp2
    rw [← hw0] at hb0 hX ⊢
    have h' := h.belowN hb0
    have hz0 : w0.heap.size = w.heap.size + 1 := by rw [hw0]; simp
    clear hw0
    go_loopw [3] (fun i wr => ∃ k : Nat, i = .int .i64 k ∧ k ≤ n ∧ Hid (chkT vars (prevT ts k) (ts.drop k) = B) ∧ Hid (∀ e, prevT ts k = some e → (e.length : Int) = vars) ∧ Below w0.heap.size w0 wr) (fun i _ => n - (intOf i).toNat)
    case atStart => exact ⟨0, rfl, by omega, HB.out, fun e he => (by cases he), Below.refl _ _⟩
    case round =>
      obtain ⟨k, rfl, hk, hBk, hpk, hb⟩ := hrel
      have hzr := hb.size
      have hXr := hX.belowN hb
      obtain ⟨x0, x1, x2, x3⟩ := hXr.c2
      have hbw : Below w.heap.size w wr := hb0.trans (hb.mono (by omega))
      by_cases hlt : k < n
      · obtain ⟨b1, off1, t, ea, en, ec, rfl, ht, t0, t1, hen, he1, he2, hea⟩ := h'.get hb (k := k) (by rw [← HN.out]; exact hlt)
        have hB2 := hBk.out
        rw [drop_at ht.out, chkT] at hB2
        have hk0 : (0 : Int) ≤ (k : Int) := by omega
        have hk1 : (k : Int) < (n : Int) := by omega
        have hen6 : en ≤ 1000000 := by rw [hen.out]; exact HLL.out t (List.mem_of_getElem? ht.out)
        by_cases hc0 : t.1 = 0
        · have HBF : Hid (B = false) := by show B = false; rw [← hB2, hc0]; rfl
          have e1 : ((t.1.toNat : Int) == 0) = true := by rw [hc0]; rfl
          clear hB2 ht hc0
          go_wp2
          go_quiet (fail)
          go_wp2
          go_ret
          exact ⟨by rw [HBF.out]; rfl, hbw.trans (below_drawn _ _ _)⟩
        · have e1 : ((t.1.toNat : Int) == 0) = false := by
            simp only [beq_eq_false_iff_ne, ne_eq]
            intro q
            exact hc0 (UInt64.toNat_inj.1 (by simpa using q))
          have e2 : (t.1 != 0) = true := by simpa using hc0
          rw [e2, Bool.true_and] at hB2
          obtain ⟨Q, hQ⟩ : ∃ Q, rightT vars t.2 = Q := ⟨_, rfl⟩
          have HR := hide (fun (W : World) (k1 : Below wr.heap.size wr W) => RRight_calls vars ea en ec t.2 hen.out W (hea.belowN k1) hen6 Q hQ)
          rw [hQ] at hB2
          have HQ := hide hQ
          clear hc0 e2
          cases Q with
          | false =>
            have HBF : Hid (B = false) := by show B = false; rw [← hB2]; rfl
            clear hB2 ht hQ
            go_wp2
            go_quiet ((go_at_call 41; first | exact quietS (HR.out _ (below_drawn _ _ _)) rfl | exact quietSA (HR.out _ (below_drawn _ _ _)) rfl))
            go_wp2
            go_ret
            exact ⟨by rw [HBF.out]; rfl, hbw.trans (below_drawn _ _ _)⟩
          | true =>
            rw [Bool.true_and] at hB2
            have hlen := rightT_len hQ
            have HPS := hide (prevT_succ ht.out)
            rcases k with _ | j
            · rw [Nat.zero_mul, Nat.add_zero] at t0 t1
              have hB3 : chkT vars (some t.2) (ts.drop 1) = B := by rw [← hB2]; rfl
              have HB3 := hide hB3
              have HLE := hide hlen
              clear hB2 hB3 ht hQ hlen
              go_wp2
              go_quiet ((go_at_call 41; first | exact quietS (HR.out _ (below_drawn _ _ _)) rfl | exact quietSA (HR.out _ (below_drawn _ _ _)) rfl))
              go_wp2
              go_quiet (fail)
              go_wp2
              go_roundw
              case rel => exact ⟨1, by go_num, by omega, by show _ = _; rw [HPS.out]; exact HB3.out, fun e he => (by rw [HPS.out] at he; injection he with he; rw [← he]; exact HLE.out), by first | exact (hb.trans (below_drawn _ _ _)).trans (below_drawn _ _ _) | exact hb.trans (below_drawn _ _ _)⟩
              case measure => simp [intOf]; omega
            · obtain ⟨b2, off2, s, sa, sn, sc, hbs, hs, s0, s1, hsn, hs1, hs2, hsa⟩ := h'.get hb (k := j) (by rw [← HN.out]; omega)
              cases hbs
              have hP := prevT_succ hs.out
              have hls := hpk.out s.2 hP
              rw [hP] at hB2
              have hsn6 : sn ≤ 1000000 := by rw [hsn.out]; exact HLL.out s (List.mem_of_getElem? hs.out)
              obtain ⟨R, hR⟩ : ∃ R, ordR s.2 t.2 = R := ⟨_, rfl⟩
              have HO := hide (fun (W : World) (k1 : Below wr.heap.size wr W) => Order_calls sa ea sn en sc ec s.2 t.2 hsn.out hen.out (by rw [hsn.out, hen.out]; omega) W (hsa.belowN k1) (hea.belowN k1) hsn6 R hR)
              have hkk : (0 : Int) < (j : Int) + 1 := by omega
              have hj1 : (j : Int) < (n : Int) := by omega
              have hj0 : (0 : Int) ≤ (j : Int) := by omega
              by_cases hRn : R < 0
              · have hB3 : chkT vars (some t.2) (ts.drop (j + 1 + 1)) = B := by rw [← hB2]; simp [okPrev, hR, hRn]
                have HB3 := hide hB3
                have HLE := hide hlen
                have hRn2 : ¬ 0 ≤ R := by omega
                clear hB2 hB3 ht hs hQ hlen hP hls hR
                go_wp2
                go_quiet ((go_at_call 41; first | exact quietS (HR.out _ (below_drawn _ _ _)) rfl | exact quietSA (HR.out _ (below_drawn _ _ _)) rfl))
                go_wp2
                go_quiet ((go_at_call 39; first | exact quiet_add (HO.out _ (below_drawn _ _ _)) | exact quietN (HO.out _ (below_drawn _ _ _))))
                go_wp2
                go_roundw
                case rel => exact ⟨j + 1 + 1, by go_num, by omega, by show _ = _; rw [HPS.out]; exact HB3.out, fun e he => (by rw [HPS.out] at he; injection he with he; rw [← he]; exact HLE.out), by first | exact (hb.trans (below_drawn _ _ _)).trans (below_drawn _ _ _) | exact hb.trans (below_drawn _ _ _)⟩
                case measure => simp [intOf]; omega
              · have HBF : Hid (B = false) := by show B = false; rw [← hB2]; simp [okPrev, hR, hRn]
                have hRn2 : 0 ≤ R := by omega
                clear hB2 ht hs hQ hlen hP hls hR
                go_wp2
                go_quiet ((go_at_call 41; first | exact quietS (HR.out _ (below_drawn _ _ _)) rfl | exact quietSA (HR.out _ (below_drawn _ _ _)) rfl))
                go_wp2
                go_quiet ((go_at_call 39; first | exact quiet_add (HO.out _ (below_drawn _ _ _)) | exact quietN (HO.out _ (below_drawn _ _ _))))
                go_wp2
                go_ret
                exact ⟨by rw [HBF.out]; rfl, by first | exact (hbw.trans (below_drawn _ _ _)).trans (below_drawn _ _ _) | exact hbw.trans (below_drawn _ _ _)⟩
      · obtain rfl : k = n := by omega
        have hB2 := hBk.out
        rw [List.drop_eq_nil_of_le (by rw [← HN.out]; exact Nat.le_refl _), chkT] at hB2
        subst hB2
        go_wp2
        go_ret
        exact ⟨rfl, hbw⟩
set_option maxRecDepth 100000 in
set_option maxHeartbeats 3200000 in
theorem Check_calls (vars : Int) (a : Option Addr) (n c : Nat) (ts : List Tm) (hn : n = ts.length) (w : World) (h : AtT w a ts) (hl : n ≤ 1000000) (hll : ∀ t ∈ ts, t.2.length ≤ 1000000) (B : Bool) (hB : checkP vars ts = B) :
    Calls Try.prog 21 #[.agg #[.int .i64 vars, .slice a n c]] w fun v w' => v = .returned (.bool B) ∧ Below w.heap.size w w' := by
  have hb0 := below_box w (.cells #[.int .i64 vars, .slice a n c] 24)
  have hX := Blk.new w 24 #[.int .i64 vars, .slice a n c]
  unfold checkP at hB
  rw [← hn] at hB
  by_cases hbad : vars < 0 ∨ 64 < vars ∨ 4096 < n
  · have hBF : B = false := by
      rw [← hB]
      rcases hbad with q | q | q
      · rw [decide_eq_false (show ¬ 0 ≤ vars by omega)]; rfl
      · rw [decide_eq_false (show ¬ vars ≤ 64 by omega), Bool.and_false]; rfl
      · rw [decide_eq_false (show ¬ n ≤ 4096 by omega), Bool.and_false]; rfl
    subst hBF
    clear hB hn
    by_cases h1 : vars < 0
    · go_enter Try.func21, Try.ntmps21
      go_wp2
      go_ret
      exact ⟨rfl, hb0⟩
    · by_cases h2 : 64 < vars
      · go_enter Try.func21, Try.ntmps21
        go_wp2
        go_ret
        exact ⟨rfl, hb0⟩
      · have h3 : (4096 : Int) < (n : Int) := by omega
        clear hbad
        go_enter Try.func21, Try.ntmps21
        go_wp2
        go_ret
        exact ⟨rfl, hb0⟩
  · have h1 : ¬ vars < 0 := by omega
    have h2 : ¬ 64 < vars := by omega
    have h3 : ¬ (4096 : Int) < (n : Int) := by omega
    rw [decide_eq_true (show 0 ≤ vars by omega), decide_eq_true (show vars ≤ 64 by omega), decide_eq_true (show n ≤ 4096 by omega)] at hB
    have HB : Hid (chkT vars (prevT ts 0) (ts.drop 0) = B) := by show _ = B; rw [← hB]; rfl
    have HN := hide hn
    have HLL := hide hll
    clear hB hn hbad hll
    obtain ⟨w0, hw0⟩ : ∃ w0, w0 = w.alloc (.cells #[.int .i64 vars, .slice a n c] 24) := ⟨_, rfl⟩
    go_enter Try.func21, Try.ntmps21
    go_wp2
    rw [← hw0] at hb0 hX ⊢
    have h' := h.belowN hb0
    have hz0 : w0.heap.size = w.heap.size + 1 := by rw [hw0]; simp
    clear hw0
    go_loopw [22] (fun i wr => ∃ k : Nat, i = .int .i64 k ∧ k ≤ n ∧ Hid (chkT vars (prevT ts k) (ts.drop k) = B) ∧ Hid (∀ e, prevT ts k = some e → (e.length : Int) = vars) ∧ Below w0.heap.size w0 wr) (fun i _ => n - (intOf i).toNat)
    case atStart => exact ⟨0, rfl, by omega, HB.out, fun e he => (by cases he), Below.refl _ _⟩
    case round =>
      obtain ⟨k, rfl, hk, hBk, hpk, hb⟩ := hrel
      have hzr := hb.size
      by_cases hlt : k < n
      · obtain ⟨b1, off1, t, ea, en, ec, rfl, ht, t0, t1, hen, he1, he2, hea⟩ := h'.get hb (k := k) (by rw [← HN.out]; exact hlt)
        obtain ⟨w1, hw1⟩ : ∃ w1, w1 = wr.alloc (.cells #[.int .u64 (t.1.toNat : Int), .slice ea en ec] 57) := ⟨_, rfl⟩
        have hb1 : Below wr.heap.size wr w1 := by rw [hw1]; exact below_box _ _
        have hT : Blk w1 wr.heap.size 57 #[.int .u64 (t.1.toNat : Int), .slice ea en ec] := by rw [hw1]; exact Blk.new _ _ _
        have hB1 := hb.trans (hb1.mono hzr)
        have hbw : Below w.heap.size w w1 := hb0.trans (hB1.mono (by omega))
        have hz1 := hB1.size
        obtain ⟨x0, x1, x2, x3⟩ := (hX.belowN hB1).c2
        obtain ⟨y0, y1, y2, y3⟩ := hT.c2
        have hea1 := hea.belowN hb1
        have hB2 := hBk.out
        rw [drop_at ht.out, chkT] at hB2
        have hk0 : (0 : Int) ≤ (k : Int) := by omega
        have hk1 : (k : Int) < (n : Int) := by omega
        have hen6 : en ≤ 1000000 := by rw [hen.out]; exact HLL.out t (List.mem_of_getElem? ht.out)
        have HW1 := hide hw1
        clear hw1
        by_cases hc0 : t.1 = 0
        · have HBF : Hid (B = false) := by show B = false; rw [← hB2, hc0]; rfl
          have e1 : ((t.1.toNat : Int) == 0) = true := by rw [hc0]; rfl
          clear hB2 ht hc0
          go_wp2
          rw [← HW1.out]
          go_quiet (fail)
          go_wp2
          go_ret
          exact ⟨by rw [HBF.out]; rfl, hbw.trans (below_drawn _ _ _)⟩
        · have e1 : ((t.1.toNat : Int) == 0) = false := by
            simp only [beq_eq_false_iff_ne, ne_eq]
            intro q
            exact hc0 (UInt64.toNat_inj.1 (by simpa using q))
          have e2 : (t.1 != 0) = true := by simpa using hc0
          rw [e2, Bool.true_and] at hB2
          obtain ⟨Q, hQ⟩ : ∃ Q, rightT vars t.2 = Q := ⟨_, rfl⟩
          have HR := hide (fun (W : World) (k1 : Below w1.heap.size w1 W) => PRight_calls vars ea en ec t.2 hen.out W (hea1.belowN k1) hen6 Q hQ)
          rw [hQ] at hB2
          have HQ := hide hQ
          clear hc0 e2
          cases Q with
          | false =>
            have HBF : Hid (B = false) := by show B = false; rw [← hB2]; rfl
            clear hB2 ht hQ
            go_wp2
            rw [← HW1.out]
            go_quiet ((go_at_call 40; first | exact quietS (HR.out _ (below_drawn _ _ _)) rfl | exact quietSA (HR.out _ (below_drawn _ _ _)) rfl))
            go_wp2
            go_ret
            exact ⟨by rw [HBF.out]; rfl, hbw.trans (below_drawn _ _ _)⟩
          | true =>
            rw [Bool.true_and] at hB2
            have hlen := rightT_len hQ
            have HPS := hide (prevT_succ ht.out)
            rcases k with _ | j
            · rw [Nat.zero_mul, Nat.add_zero] at t0 t1
              have hB3 : chkT vars (some t.2) (ts.drop 1) = B := by rw [← hB2]; rfl
              have HB3 := hide hB3
              have HLE := hide hlen
              clear hB2 hB3 ht hQ hlen
              go_wp2
              rw [← HW1.out]
              go_quiet ((go_at_call 40; first | exact quietS (HR.out _ (below_drawn _ _ _)) rfl | exact quietSA (HR.out _ (below_drawn _ _ _)) rfl))
              go_wp2
              go_roundw
              case rel => exact ⟨1, by go_num, by omega, by show _ = _; rw [HPS.out]; exact HB3.out, fun e he => (by rw [HPS.out] at he; injection he with he; rw [← he]; exact HLE.out), hB1.trans (below_drawn _ _ _)⟩
              case measure => simp [intOf]; omega
            · obtain ⟨b2, off2, s, sa, sn, sc, hbs, hs, s0, s1, hsn, hs1, hs2, hsa⟩ := h'.get hB1 (k := j) (by rw [← HN.out]; omega)
              cases hbs
              have hP := prevT_succ hs.out
              have hls := hpk.out s.2 hP
              rw [hP] at hB2
              have hsn6 : sn ≤ 1000000 := by rw [hsn.out]; exact HLL.out s (List.mem_of_getElem? hs.out)
              obtain ⟨R, hR⟩ : ∃ R, - ordR s.2 t.2 = R := ⟨_, rfl⟩
              have hse : sn = en := by rw [hsn.out, hen.out]; omega
              have HO := hide (fun (W : World) (k1 : Below w1.heap.size w1 W) => Compare_calls sa ea sn sc ec s.2 t.2 hsn.out (by rw [hse, hen.out]) W (hsa.belowN k1) (hea1.belowN k1) hsn6 R hR)
              subst hse
              have hkk : (0 : Int) < (j : Int) + 1 := by omega
              have hj1 : (j : Int) < (n : Int) := by omega
              have hj0 : (0 : Int) ≤ (j : Int) := by omega
              by_cases hRn : ordR s.2 t.2 < 0
              · have hB3 : chkT vars (some t.2) (ts.drop (j + 1 + 1)) = B := by rw [← hB2]; simp [okPrev, hRn]
                have HB3 := hide hB3
                have HLE := hide hlen
                have hRn2 : ¬ R ≤ 0 := by omega
                clear hB2 hB3 ht hs hQ hlen hP hls hR hRn
                go_wp2
                rw [← HW1.out]
                go_quiet (first | (go_at_call 40; first | exact quietS (HR.out _ (below_drawn _ _ _)) rfl | exact quietSA (HR.out _ (below_drawn _ _ _)) rfl) | (go_at_call 43; first | exact quietS (HO.out _ (below_drawn _ _ _)) rfl | exact quietSA (HO.out _ (below_drawn _ _ _)) rfl))
                go_wp2
                go_roundw
                case rel => exact ⟨j + 1 + 1, by go_num, by omega, by show _ = _; rw [HPS.out]; exact HB3.out, fun e he => (by rw [HPS.out] at he; injection he with he; rw [← he]; exact HLE.out), hB1.trans (below_drawn _ _ _)⟩
                case measure => simp [intOf]; omega
              · have HBF : Hid (B = false) := by show B = false; rw [← hB2]; simp [okPrev, hRn]
                have hRn2 : R ≤ 0 := by omega
                clear hB2 ht hs hQ hlen hP hls hR hRn
                go_wp2
                rw [← HW1.out]
                go_quiet (first | (go_at_call 40; first | exact quietS (HR.out _ (below_drawn _ _ _)) rfl | exact quietSA (HR.out _ (below_drawn _ _ _)) rfl) | (go_at_call 43; first | exact quietS (HO.out _ (below_drawn _ _ _)) rfl | exact quietSA (HO.out _ (below_drawn _ _ _)) rfl))
                go_wp2
                go_ret
                exact ⟨by rw [HBF.out]; rfl, hbw.trans (below_drawn _ _ _)⟩
      · obtain rfl : k = n := by omega
        have hB2 := hBk.out
        rw [List.drop_eq_nil_of_le (by rw [← HN.out]; exact Nat.le_refl _), chkT] at hB2
        subst hB2
        have hbw : Below w.heap.size w wr := hb0.trans (hb.mono (by omega))
        go_wp2
        go_ret
        exact ⟨rfl, hbw⟩
end Go.Proofs.Ytcamcnahkdiefaa
