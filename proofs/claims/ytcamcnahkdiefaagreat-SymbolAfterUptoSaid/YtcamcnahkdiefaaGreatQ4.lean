/- Several texts of mine in one file: W3a, Pl, Pl2. -/
import Derived.Test.YtcamcnahkdiefaaGreatQ3
/- Chapter 3: what comes out is small; the page's example. -/
namespace Go.Proofs.YtcamcnahkdiefaaGreat
set_option linter.unusedVariables false
set_option linter.unusedSimpArgs false
open Go.RowKit
/-- a polynomial's terms that were handed out -/
structure OutOk (L : List Tm) : Prop where
  len : L.length ≤ 4096
  exp : ∀ t ∈ L, t.2.length ≤ 64
theorem OutOk.nil : OutOk [] := ⟨by decide, fun t ht => by simp at ht⟩
theorem OutOk.six {L : List Tm} (h : OutOk L) : ∀ t ∈ L, t.2.length ≤ 1000000 := fun t ht => Nat.le_trans (h.exp t ht) (by decide)
theorem mk_out (vars : Int) (l : List Tm) : OutOk (mkL vars l) := by
  unfold mkL
  split
  · rename_i h
    unfold mkE at h
    split at h
    · cases h
    · rename_i hv
      split at h
      · cases h
      · rename_i hr
        split at h
        · cases h
        · rename_i hl
          have hr' : rightL vars l = true := by simpa using hr
          have hc := sortT_canon l (rightL_len hr')
          refine ⟨by omega, fun t ht => ?_⟩
          have := hc.len t ht
          omega
  · exact OutOk.nil
theorem res_out (ok : Bool) (vars : Int) (l : List Tm) : OutOk (resL ok vars l) := by
  unfold resL
  split
  · exact mk_out vars l
  · exact OutOk.nil
theorem mres_out (ok : Bool) (vars : Int) (A B : List Tm) : OutOk (mresL ok vars A B) := by
  unfold mresL
  split
  · unfold mulL
    split
    · exact mk_out _ _
    · exact OutOk.nil
  · exact OutOk.nil
theorem var_out (vars i : Int) : OutOk (varL vars i) := by
  unfold varL
  split
  · exact OutOk.nil
  · exact mk_out _ _
theorem sameP_self (v : Int) (L : List Tm) : sameP v L v L = true := by unfold sameP; simp
/-- the page's example -/
def exL : List Tm := [(9223372036854775808, [2]), (9223372036854775808, [1])]
theorem mergeT_two (x y : Tm) : mergeT [x] [y] = if ordR x.2 y.2 < 0 then nzT [x] ++ nzT [y] else if 0 < ordR x.2 y.2 then nzT [y] ++ nzT [x] else nzT [(x.1 + y.1, x.2)] := by
  rw [mergeT]
  split
  · rw [merge_nil']
  · split
    · rw [merge_nil]
    · rw [merge_nil]; simp [nzT]
theorem ex_sort : sortT [((9223372036854775808 : UInt64), [(1 : Int)]), (9223372036854775808, [2])] = exL := by
  rw [sort_two (by decide)]
  show mergeT (sortT [((9223372036854775808 : UInt64), [(1 : Int)])]) (sortT [((9223372036854775808 : UInt64), [(2 : Int)])]) = exL
  rw [sort_one (by decide), sort_one (by decide)]
  show mergeT [((9223372036854775808 : UInt64), [(1 : Int)])] [((9223372036854775808 : UInt64), [(2 : Int)])] = exL
  rw [mergeT_two]
  decide
theorem ex_make : mkE 1 [((9223372036854775808 : UInt64), [(1 : Int)]), (9223372036854775808, [2])] = 0 ∧ mkV 1 [((9223372036854775808 : UInt64), [(1 : Int)]), (9223372036854775808, [2])] = 1 ∧ mkL 1 [((9223372036854775808 : UInt64), [(1 : Int)]), (9223372036854775808, [2])] = exL := by
  have e : mkE 1 [((9223372036854775808 : UInt64), [(1 : Int)]), (9223372036854775808, [2])] = 0 := by
    unfold mkE
    rw [ex_sort]
    decide
  exact ⟨e, by unfold mkV; rw [e]; rfl, by unfold mkL; rw [e, ex_sort]; rfl⟩
theorem ex_check : checkP 1 exL = true := by decide
def exD : List Tm := [(9223372036854775808, [0])]
theorem ex_drv : resE (drvOk 1 exL 0) 1 (drvT (0 : Int).toNat exL) = 0 ∧ resV (drvOk 1 exL 0) 1 (drvT (0 : Int).toNat exL) = 1 ∧ resL (drvOk 1 exL 0) 1 (drvT (0 : Int).toNat exL) = exD := by
  have e0 : drvOk 1 exL 0 = true := by decide
  have e1 : drvT (0 : Int).toNat exL = [((0 : UInt64), [(1 : Int)]), (9223372036854775808, [0])] := by decide
  rw [e0, e1]
  have e2 : sortT [((0 : UInt64), [(1 : Int)]), (9223372036854775808, [0])] = exD := by
    rw [sort_two (by decide)]
    show mergeT (sortT [((0 : UInt64), [(1 : Int)])]) (sortT [((9223372036854775808 : UInt64), [(0 : Int)])]) = exD
    rw [sort_one (by decide), sort_one (by decide)]
    show mergeT [] [((9223372036854775808 : UInt64), [(0 : Int)])] = exD
    rw [merge_nil']
    decide
  have e : mkE 1 [((0 : UInt64), [(1 : Int)]), (9223372036854775808, [0])] = 0 := by
    unfold mkE
    rw [e2]
    decide
  exact ⟨e, by show mkV _ _ = _; unfold mkV; rw [e]; rfl, by show mkL _ _ = _; unfold mkL; rw [e, e2]; rfl⟩
theorem ex_eval : evalV 1 exL [5] = 0 ∧ evalE 1 exL 1 = 0 := by
  constructor
  · unfold evalV
    rw [if_pos ⟨ex_check, by decide⟩]
    decide
  · unfold evalE
    rw [if_pos ⟨ex_check, by decide⟩]
def fewB (ts : List Tm) (most : Int) : Bool := decide ((ts.length : Int) ≤ most) && ts.all fun t => decide (t.2.length ≤ 100)
theorem fewB_true {ts : List Tm} {most : Int} (h : fewB ts most = true) : (ts.length : Int) ≤ most ∧ ∀ t ∈ ts, t.2.length ≤ 100 := by
  unfold fewB at h
  simp only [Bool.and_eq_true, decide_eq_true_eq, List.all_eq_true] at h
  exact h
set_option maxRecDepth 100000 in
set_option maxHeartbeats 3200000 in
theorem Few_calls (P : Nat → Prop) (va most : Int) (hm : most ≤ 1000000) (a : Option Addr) (n c : Nat) (ts : List Tm) (w : World) (h : TOut P w a n c ts) (B : Bool) (hB : fewB ts most = B) :
    Calls Tryz.prog 18 #[.agg #[.int .i64 va, .slice a n c], .int .i64 most] w fun v w' => v = .returned (.bool B) ∧ Below w.heap.size w w' := by
  have hb0 := below_box w (.cells #[.int .i64 va, .slice a n c] 42)
  have hX := Blk.new w 42 #[.int .i64 va, .slice a n c]
  obtain ⟨p0, p1, p2, p3⟩ := hX.c2
  have hat := h.at_.belowN hb0
  have HN := hide h.len
  unfold fewB at hB
  rw [← h.len] at hB
  by_cases hl : most < (n : Int)
  · rw [decide_eq_false (by omega), Bool.false_and] at hB
    subst hB
    clear h
    go_enter Tryz.func18, Tryz.ntmps18
    go_wp2
    go_ret
    exact ⟨rfl, hb0⟩
  · rw [decide_eq_true (by omega), Bool.true_and] at hB
    have HB : Hid (((ts.drop 0).all fun t => decide (t.2.length ≤ 100)) = B) := hB
    clear h hB
    go_enter Tryz.func18, Tryz.ntmps18
    go_wp2
    go_loopw [5] (fun iv wr => ∃ k : Nat, iv = .int .i64 k ∧ k ≤ n ∧ Hid (((ts.drop k).all fun t => decide (t.2.length ≤ 100)) = B) ∧ wr = w.alloc (.cells #[.int .i64 va, .slice a n c] 42)) (fun iv _ => n - (intOf iv).toNat)
    case atStart => exact ⟨0, rfl, by omega, HB.out, rfl⟩
    case round =>
      obtain ⟨k, rfl, hk, hBk, rfl⟩ := hrel
      by_cases hlt : k < n
      · obtain ⟨b1, off1, t, ea, en, ec, rfl, ht, t0, t1, hrow, hfar⟩ := hat.getF (Below.refl _ _) (k := k) (by rw [← HN.out]; exact hlt)
        have hk0 : (0 : Int) ≤ (k : Int) := by omega
        have hk1 : (k : Int) < (n : Int) := by omega
        have hen : en = t.2.length := hrow.out.2.1
        have hB2 := hBk.out
        rw [drop_at ht.out, List.all_cons, ← hen] at hB2
        clear ht hen
        by_cases h1 : 100 < en
        · have hBF : Hid (B = false) := by show B = false; rw [← hB2, decide_eq_false (by omega)]; rfl
          have e1 : (100 : Int) < (en : Int) := by omega
          clear hB2 h1
          go_wp2
          go_ret
          exact ⟨by rw [hBF.out]; rfl, hb0⟩
        · have hB3 := hB2
          rw [decide_eq_true (show en ≤ 100 by omega), Bool.true_and] at hB3
          have HB3 := hide hB3
          have e1 : ¬ (100 : Int) < (en : Int) := by omega
          clear hB2 hB3 h1
          go_wp2
          go_roundw
          case rel => exact ⟨k + 1, by go_num, by omega, HB3.out, by first | rfl | trivial⟩
          case measure => simp [intOf]; omega
      · obtain rfl : k = n := by omega
        have hB2 := hBk.out
        rw [List.drop_eq_nil_of_le (by rw [← HN.out]; exact Nat.le_refl _)] at hB2
        have hBT : Hid (B = true) := by show B = true; rw [← hB2]; rfl
        clear hB2
        go_wp2
        go_ret
        exact ⟨by rw [hBT.out]; rfl, hb0⟩
end Go.Proofs.YtcamcnahkdiefaaGreat

/- Plain: sums, products and derivatives by any weights. -/
namespace Go.Proofs.YtcamcnahkdiefaaGreat
set_option linter.unusedVariables false
set_option linter.unusedSimpArgs false
/-- the powers' sum -/
abbrev zipE (e f : List Int) : List Int := List.zipWith (· + ·) e f
theorem lin_map_mul (F : List Int → UInt64) (s : Tm) (B : List Tm) : lin F (B.map (mul1 s)) = s.1 * lin (fun f => F (zipE s.2 f)) B := by
  induction B with
  | nil => simp [lin]
  | cons t B ih =>
    rw [List.map_cons, lin, ih, lin]
    show s.1 * t.1 * F (zipE s.2 t.2) + _ = _
    grind
theorem lin_mul (F : List Int → UInt64) (A B : List Tm) : lin F (mulT A B) = lin (fun e => lin (fun f => F (zipE e f)) B) A := by
  induction A with
  | nil => rfl
  | cons s A ih =>
    have : mulT (s :: A) B = B.map (mul1 s) ++ mulT A B := rfl
    rw [this, lin_append, lin_map_mul, ih, lin]
/-- weights of a derivative -/
def drvF (i : Nat) (F : List Int → UInt64) (e : List Int) : UInt64 := if 0 < e.getD i 0 then UInt64.ofNat (e.getD i 0).toNat * F (e.set i (e.getD i 0 - 1)) else 0
theorem lin_drv1 (F : List Int → UInt64) (i : Nat) (t : Tm) : lin F (drv1 i t) = t.1 * drvF i F t.2 := by
  unfold drv1 drvF
  split
  · rw [lin, lin]; grind
  · rw [lin]; grind
theorem lin_drv (F : List Int → UInt64) (i : Nat) (A : List Tm) : lin F (drvT i A) = lin (drvF i F) A := by
  induction A with
  | nil => rfl
  | cons t A ih =>
    have : drvT i (t :: A) = drv1 i t ++ drvT i A := rfl
    rw [this, lin_append, lin_drv1, ih, lin]
/-- weights that are alike on the powers that stand there -/
theorem lin_congr {F G : List Int → UInt64} {A : List Tm} (h : ∀ t ∈ A, F t.2 = G t.2) : lin F A = lin G A := by
  induction A with
  | nil => rfl
  | cons t A ih => rw [lin, lin, h t List.mem_cons_self, ih fun s hs => h s (List.mem_cons_of_mem _ hs)]
theorem lin_add (F G : List Int → UInt64) (A : List Tm) : lin (fun e => F e + G e) A = lin F A + lin G A := by
  induction A with
  | nil => simp [lin]
  | cons t A ih => rw [lin, lin, lin, ih]; grind
theorem zip_set_l : ∀ (s t : List Int) (i : Nat) (x : Int), i < s.length → i < t.length → zipE (s.set i x) t = (zipE s t).set i (x + t.getD i 0)
  | [], _, _, _, h, _ => by simp at h
  | a :: s, [], _, _, _, h => by simp at h
  | a :: s, b :: t, 0, x, _, _ => rfl
  | a :: s, b :: t, i + 1, x, h, k => by
    have := zip_set_l s t i x (by simpa using h) (by simpa using k)
    simpa [zipE] using this
theorem zip_comm : ∀ (s t : List Int), zipE s t = zipE t s
  | [], [] => rfl
  | [], _ :: _ => rfl
  | _ :: _, [] => rfl
  | a :: s, b :: t => by
    have := zip_comm s t
    simp [zipE] at this ⊢
    exact ⟨Int.add_comm _ _, this⟩
theorem zip_set_r (s t : List Int) (i : Nat) (x : Int) (h : i < s.length) (k : i < t.length) : zipE s (t.set i x) = (zipE s t).set i (s.getD i 0 + x) := by
  rw [zip_comm, zip_set_l t s i x k h, zip_comm, Int.add_comm]
theorem zip_getD (s t : List Int) (i : Nat) (h : i < s.length) (k : i < t.length) : (zipE s t).getD i 0 = s.getD i 0 + t.getD i 0 := by
  simp only [List.getD_eq_getElem?_getD, zipE, List.getElem?_zipWith, List.getElem?_eq_getElem h, List.getElem?_eq_getElem k]
  rfl
theorem ofNat_add (a b : Int) (ha : 0 ≤ a) (hb : 0 ≤ b) : UInt64.ofNat (a + b).toNat = UInt64.ofNat a.toNat + UInt64.ofNat b.toNat := by
  rw [Int.toNat_add ha hb, UInt64.ofNat_add]
theorem InE.getD {e : List Int} (h : InE e) (i : Nat) : 0 ≤ e.getD i 0 := by
  by_cases hi : i < e.length
  · have : e.getD i 0 ∈ e := by rw [List.getD_eq_getElem?_getD, List.getElem?_eq_getElem hi]; exact List.getElem_mem hi
    exact (h _ this).1
  · rw [List.getD_eq_getElem?_getD, List.getElem?_eq_none (by omega)]; exact Int.le_refl _
/-- the derivative of a product, power by power -/
theorem drvF_zip (F : List Int → UInt64) (i : Nat) {s t : List Int} (hs : InE s) (ht : InE t) (h : i < s.length) (k : i < t.length) :
    drvF i F (zipE s t) = drvF i (fun e => F (zipE e t)) s + drvF i (fun f => F (zipE s f)) t := by
  have ha := hs.getD i
  have hb := ht.getD i
  unfold drvF
  rw [zip_getD s t i h k]
  obtain ⟨a, hA⟩ : ∃ a, s.getD i 0 = a := ⟨_, rfl⟩
  obtain ⟨b, hB⟩ : ∃ b, t.getD i 0 = b := ⟨_, rfl⟩
  rw [hA] at ha
  rw [hB] at hb
  rw [hA, hB]
  show (if 0 < a + b then UInt64.ofNat (a + b).toNat * F ((zipE s t).set i (a + b - 1)) else 0) = (if 0 < a then UInt64.ofNat a.toNat * F (zipE (s.set i (a - 1)) t) else 0) + if 0 < b then UInt64.ofNat b.toNat * F (zipE s (t.set i (b - 1))) else 0
  rw [zip_set_l s t i (a - 1) h k, zip_set_r s t i (b - 1) h k, hA, hB, ofNat_add a b ha hb, show a - 1 + b = a + b - 1 by omega, show a + (b - 1) = a + b - 1 by omega]
  by_cases h1 : 0 < a
  · by_cases h2 : 0 < b
    · rw [if_pos (by omega), if_pos h1, if_pos h2]; grind
    · have hb0 : b = 0 := by omega
      subst hb0
      rw [if_pos (by omega), if_pos h1, if_neg h2]
      simp
  · have ha0 : a = 0 := by omega
    subst ha0
    by_cases h2 : 0 < b
    · rw [if_pos (by omega), if_neg h1, if_pos h2]; simp
    · rw [if_neg (by omega), if_neg h1, if_neg h2]; simp
theorem set_getD_ne {e : List Int} {i j : Nat} (h : i ≠ j) (x : Int) : (e.set i x).getD j 0 = e.getD j 0 := by
  simp only [List.getD_eq_getElem?_getD, List.getElem?_set_ne h]
/-- in whatever order two are derived by -/
theorem drvF_comm (F : List Int → UInt64) (i j : Nat) (e : List Int) : drvF i (drvF j F) e = drvF j (drvF i F) e := by
  by_cases hij : i = j
  · rw [hij]
  · unfold drvF
    rw [set_getD_ne hij, set_getD_ne (Ne.symm hij)]
    obtain ⟨a, hA⟩ : ∃ a, e.getD i 0 = a := ⟨_, rfl⟩
    obtain ⟨b, hB⟩ : ∃ b, e.getD j 0 = b := ⟨_, rfl⟩
    rw [hA, hB, List.set_comm _ _ (Ne.symm hij)]
    by_cases h1 : 0 < a
    · by_cases h2 : 0 < b
      · rw [if_pos h1, if_pos h2, if_pos h2, if_pos h1]; grind
      · rw [if_pos h1, if_neg h2, if_neg h2]; simp
    · by_cases h2 : 0 < b
      · rw [if_neg h1, if_pos h2, if_neg h1]; simp
      · rw [if_neg h1, if_neg h2]
theorem u64_pow_add (x : UInt64) (m n : Nat) : x ^ (m + n) = x ^ m * x ^ n := by
  induction n with
  | zero => rw [Nat.add_zero, UInt64.pow_zero]; grind
  | succ n ih => rw [show m + (n + 1) = (m + n) + 1 by omega, UInt64.pow_succ, UInt64.pow_succ, ih]; grind
theorem monR_zip (xs : List UInt64) : ∀ {e f : List Int}, InE e → InE f → e.length = f.length → monR xs (zipE e f) = monR xs e * monR xs f := by
  induction xs with
  | nil => intro e f _ _ _; simp [monR]
  | cons x xs ih =>
    intro e f he hf hl
    match e, f, hl with
    | [], [], _ => simp [monR]
    | a :: e, b :: f, hl =>
      show monR (x :: xs) ((a + b) :: zipE e f) = _
      rw [monR, monR, monR, ih he.tail hf.tail (by simpa using hl), Int.toNat_add he.head.1 hf.head.1, u64_pow_add]
      grind
theorem lin_scale (F : List Int → UInt64) (c : UInt64) (A : List Tm) : lin (fun e => c * F e) A = c * lin F A := by
  induction A with
  | nil => simp [lin]
  | cons t A ih => rw [lin, lin, ih]; grind
theorem lin_scaleR (F : List Int → UInt64) (c : UInt64) (A : List Tm) : lin (fun e => F e * c) A = lin F A * c := by
  induction A with
  | nil => simp [lin]
  | cons t A ih => rw [lin, lin, ih]; grind
/-- a product at numbers -/
theorem eval_mul (xs : List UInt64) {n : Nat} {A B : List Tm} (hA : LenT n A) (hB : LenT n B) (iA : ∀ t ∈ A, InE t.2) (iB : ∀ t ∈ B, InE t.2) : evalT xs (mulT A B) = evalT xs A * evalT xs B := by
  unfold evalT
  rw [lin_mul]
  have h1 : ∀ s ∈ A, lin (fun f => monR xs (zipE s.2 f)) B = monR xs s.2 * lin (monR xs) B := fun s hs => by
    rw [← lin_scale]
    exact lin_congr fun t ht => monR_zip xs (iA s hs) (iB t ht) (by rw [hA s hs, hB t ht])
  rw [lin_congr (F := fun e => lin (fun f => monR xs (zipE e f)) B) (G := fun e => monR xs e * lin (monR xs) B) h1, lin_scaleR]
theorem eval_add (xs : List UInt64) {n : Nat} {A B : List Tm} (h : LenT n (A ++ B)) : evalT xs (sortT (A ++ B)) = evalT xs A + evalT xs B := by
  unfold evalT
  rw [lin_sort _ _ h, lin_append]
/-- what is in order may be -/
theorem chk_of_canon {vars : Int} {n : Nat} : ∀ (pr : Option (List Int)) (l : List Tm), Canon n l → (∀ t ∈ l, rightT vars t.2 = true) → (∀ e, pr = some e → ∀ t ∈ l, ordR e t.2 < 0) → chkT vars pr l = true
  | pr, [], _, _, _ => by cases pr <;> rfl
  | pr, t :: l, hc, hr, hp => by
    have h1 : (t.1 != 0) = true := by simpa using hc.nz t List.mem_cons_self
    have h2 := hr t List.mem_cons_self
    have h3 : okPrev pr t.2 = true := by
      cases pr with
      | none => rfl
      | some e => exact decide_eq_true (hp e rfl t List.mem_cons_self)
    have h4 := chk_of_canon (some t.2) l hc.tail (fun s hs => hr s (List.mem_cons_of_mem _ hs)) (fun e he s hs => by
      injection he with he
      rw [← he]
      exact (List.pairwise_cons.1 hc.srt).1 s hs)
    rw [chkT, h1, h2, h3, h4]; rfl
theorem mem_sort {n : Nat} (l : List Tm) (h : LenT n l) : ∀ t ∈ sortT l, ∃ s ∈ l, s.2 = t.2 := by
  intro t ht
  refine Decidable.byContradiction fun hn => ?_
  have h0 : ∀ s ∈ l, s.2 ≠ t.2 := fun s hs e => hn ⟨s, hs, e⟩
  have h1 := lin_sort (dlt t.2) l h
  rw [lin_dlt_out t.2 l h0, lin_dlt_mem (sortT_canon l h) t ht] at h1
  exact (sortT_canon l h).nz t ht h1
theorem right_sort {vars : Int} {l : List Tm} (h : rightL vars l = true) : rightL vars (sortT l) = true := by
  refine List.all_eq_true.2 fun t ht => ?_
  obtain ⟨s, hs, e⟩ := mem_sort l (rightL_len h) t ht
  rw [← e]
  exact List.all_eq_true.1 h s hs
theorem mk_of_ok {vars : Int} {l : List Tm} (hv : ¬ (vars < 0 ∨ 64 < vars)) (hr : rightL vars l = true) (hl : (sortT l).length ≤ 4096) : mkE vars l = 0 ∧ mkV vars l = vars ∧ mkL vars l = sortT l := by
  have e : mkE vars l = 0 := by unfold mkE; rw [if_neg hv, if_neg (by rw [hr]; decide), if_neg (by omega)]
  exact ⟨e, by unfold mkV; rw [e]; rfl, by unfold mkL; rw [e]; rfl⟩
theorem check_sort {vars : Int} {l : List Tm} (hv : ¬ (vars < 0 ∨ 64 < vars)) (hr : rightL vars l = true) (hl : (sortT l).length ≤ 4096) : checkP vars (sortT l) = true := by
  unfold checkP
  rw [decide_eq_true (show 0 ≤ vars by omega), decide_eq_true (show vars ≤ 64 by omega), decide_eq_true hl, chk_of_canon none _ (sortT_canon l (rightL_len hr)) (List.all_eq_true.1 (right_sort hr)) (fun e he => by cases he)]
  rfl
/-- what came of terms that may be -/
theorem mk_ok0 {vars : Int} {l : List Tm} (h : mkE vars l = 0) : mkV vars l = vars ∧ mkL vars l = sortT l ∧ rightL vars l = true ∧ ¬ (vars < 0 ∨ 64 < vars) ∧ (sortT l).length ≤ 4096 ∧ checkP vars (sortT l) = true := by
  have h0 := h
  unfold mkE at h
  split at h
  · cases h
  · rename_i hv
    split at h
    · cases h
    · rename_i hr
      split at h
      · cases h
      · rename_i hl
        have hr' : rightL vars l = true := by simpa using hr
        exact ⟨by unfold mkV; rw [h0]; rfl, by unfold mkL; rw [h0]; rfl, hr', hv, by omega, check_sort hv hr' (by omega)⟩
end Go.Proofs.YtcamcnahkdiefaaGreat

/- Plain: the derivative of a product. -/
namespace Go.Proofs.YtcamcnahkdiefaaGreat
set_option linter.unusedVariables false
set_option linter.unusedSimpArgs false
theorem drv_facts {va : Int} {A : List Tm} (hA : checkP va A = true) {j : Nat} (hj : (j : Int) < va) : drvOk va A (j : Int) = true ∧ resE (drvOk va A (j : Int)) va (drvT (j : Int).toNat A) = 0 ∧ resV (drvOk va A (j : Int)) va (drvT (j : Int).toNat A) = va ∧
    resL (drvOk va A (j : Int)) va (drvT (j : Int).toNat A) = sortT (drvT j A) ∧ checkP va (sortT (drvT j A)) = true := by
  have hok : drvOk va A (j : Int) = true := by
    unfold drvOk
    rw [hA, decide_eq_true (show (0 : Int) ≤ (j : Int) by omega), decide_eq_true hj]; rfl
  have oA := checkP_ok hA
  have hr := drvT_right (i := j) oA.right
  have hs : (sortT (drvT j A)).length ≤ 4096 := Nat.le_trans (sort_len _) (Nat.le_trans (drvT_len j A) oA.len)
  obtain ⟨h1, h2, h3⟩ := mk_of_ok oA.range hr hs
  rw [hok, Int.toNat_natCast]
  exact ⟨rfl, h1, h2, h3, check_sort oA.range hr hs⟩
theorem right_mul {va : Int} {A B : List Tm} : rightL va (mulT A B) = true ↔ ∀ s ∈ A, ∀ t ∈ B, rightT va (zipE s.2 t.2) = true := by
  constructor
  · intro h s hs t ht
    exact List.all_eq_true.1 h (mul1 s t) (List.mem_flatMap.2 ⟨s, hs, List.mem_map.2 ⟨t, ht, rfl⟩⟩)
  · intro h
    refine List.all_eq_true.2 fun x hx => ?_
    obtain ⟨s, hs, hx⟩ := List.mem_flatMap.1 hx
    obtain ⟨t, ht, rfl⟩ := List.mem_map.1 hx
    exact h s hs t ht
theorem mem_drv {i : Nat} {A : List Tm} {r : Tm} (h : r ∈ drvT i A) : ∃ t ∈ A, 0 < t.2.getD i 0 ∧ r.2 = t.2.set i (t.2.getD i 0 - 1) := by
  obtain ⟨t, ht, hr⟩ := List.mem_flatMap.1 h
  unfold drv1 at hr
  split at hr
  · rename_i h0
    simp only [List.mem_singleton] at hr
    exact ⟨t, ht, h0, by rw [hr]⟩
  · simp at hr
theorem right_set {va : Int} {e : List Int} (h : rightT va e = true) {i : Nat} {x : Int} (h0 : 0 ≤ x) (h1 : x ≤ 65535) : rightT va (e.set i x) = true := by
  refine rightT_mk (by rw [List.length_set]; exact rightT_len h) fun y hy => ?_
  rcases List.mem_or_eq_of_mem_set hy with hy | rfl
  · exact rightT_in h y hy
  · exact ⟨h0, h1⟩
theorem getD_in {va : Int} {e : List Int} (h : rightT va e = true) (i : Nat) : 0 ≤ e.getD i 0 ∧ e.getD i 0 ≤ 65535 := by
  by_cases hi : i < e.length
  · have : e.getD i 0 ∈ e := by rw [List.getD_eq_getElem?_getD, List.getElem?_eq_getElem hi]; exact List.getElem_mem hi
    exact rightT_in h _ this
  · rw [List.getD_eq_getElem?_getD, List.getElem?_eq_none (by omega)]; exact ⟨Int.le_refl _, by decide⟩
theorem drvT_lenT {n i : Nat} {A : List Tm} (h : LenT n A) : LenT n (drvT i A) := fun r hr => by
  obtain ⟨t, ht, _, e⟩ := mem_drv hr
  rw [e, List.length_set]; exact h t ht
theorem mulT_lenT {n : Nat} {A B : List Tm} (hA : LenT n A) (hB : LenT n B) : LenT n (mulT A B) := fun x hx => by
  obtain ⟨s, hs, hx⟩ := List.mem_flatMap.1 hx
  obtain ⟨t, ht, rfl⟩ := List.mem_map.1 hx
  exact zip_len (hA s hs) (hB t ht)
theorem right_mul_drv_l {va : Int} {A B : List Tm} {i : Nat} (hA : checkP va A = true) (hB : checkP va B = true) (hi : (i : Int) < va) (h : rightL va (mulT A B) = true) : rightL va (mulT (sortT (drvT i A)) B) = true := by
  have oA := checkP_ok hA
  have oB := checkP_ok hB
  rw [right_mul] at h ⊢
  intro s hs t ht
  obtain ⟨r, hr, e⟩ := mem_sort (drvT i A) (drvT_lenT oA.can.len) s hs
  obtain ⟨u, hu, h0, e2⟩ := mem_drv hr
  have l1 := oA.can.len u hu
  have l2 := oB.can.len t ht
  have hv := oA.v
  rw [← e, e2, zip_set_l u.2 t.2 i _ (by omega) (by omega)]
  have h1 := h u hu t ht
  have h2 := getD_in h1 i
  rw [zip_getD u.2 t.2 i (by omega) (by omega)] at h2
  have h3 := getD_in (oB.rt t ht) i
  exact right_set h1 (by omega) (by omega)
theorem right_mul_comm {va : Int} {A B : List Tm} (h : rightL va (mulT A B) = true) : rightL va (mulT B A) = true := by
  rw [right_mul] at h ⊢
  intro s hs t ht
  rw [zip_comm]; exact h t ht s hs
theorem right_mul_drv_r {va : Int} {A B : List Tm} {i : Nat} (hA : checkP va A = true) (hB : checkP va B = true) (hi : (i : Int) < va) (h : rightL va (mulT A B) = true) : rightL va (mulT A (sortT (drvT i B))) = true :=
  right_mul_comm (right_mul_drv_l hB hA hi (right_mul_comm h))
theorem drvF_lin (F : List Int → UInt64) (i : Nat) (B : List Tm) (e : List Int) : drvF i (fun e => lin (fun f => F (zipE e f)) B) e = lin (fun f => drvF i (fun e' => F (zipE e' f)) e) B := by
  unfold drvF
  split
  · rw [← lin_scale]
  · induction B with
    | nil => rfl
    | cons t B ih => rw [lin, ← ih]; grind
/-- the derivative of a product -/
theorem prod_rule {va : Int} {A B : List Tm} {i : Nat} (hA : checkP va A = true) (hB : checkP va B = true) (hi : (i : Int) < va) :
    sortT (drvT i (sortT (mulT A B))) = sortT (sortT (mulT (sortT (drvT i A)) B) ++ sortT (mulT A (sortT (drvT i B)))) := by
  have oA := checkP_ok hA
  have oB := checkP_ok hB
  have hv := oA.v
  have lA := oA.can.len
  have lB := oB.can.len
  have dA := drvT_lenT (i := i) lA
  have dB := drvT_lenT (i := i) lB
  have cA := (sortT_canon _ dA).len
  have cB := (sortT_canon _ dB).len
  have lM := mulT_lenT lA lB
  have lX := mulT_lenT cA lB
  have lY := mulT_lenT lA cB
  have sM := (sortT_canon _ lM).len
  have lR := (sortT_canon _ lX).len.app (sortT_canon _ lY).len
  refine canon_uniq _ _ (sortT_canon _ (drvT_lenT sM)) (sortT_canon _ lR) fun F => ?_
  rw [lin_sort F _ (drvT_lenT sM), lin_drv, lin_sort _ _ lM, lin_mul]
  rw [lin_sort F _ lR, lin_append, lin_sort F _ lX, lin_sort F _ lY, lin_mul, lin_mul, lin_sort _ _ dA, lin_drv]
  have q1 : lin (drvF i (fun e => lin (fun f => F (zipE e f)) B)) A = lin (fun e => lin (fun f => drvF i (fun e' => F (zipE e' f)) e) B) A :=
    lin_congr (F := drvF i (fun e => lin (fun f => F (zipE e f)) B)) (G := fun e => lin (fun f => drvF i (fun e' => F (zipE e' f)) e) B) fun t _ => drvF_lin F i B t.2
  have q2 : lin (fun e => lin (fun f => F (zipE e f)) (sortT (drvT i B))) A = lin (fun e => lin (drvF i (fun f => F (zipE e f))) B) A :=
    lin_congr (F := fun e => lin (fun f => F (zipE e f)) (sortT (drvT i B))) (G := fun e => lin (drvF i (fun f => F (zipE e f))) B) fun t _ => by
      show lin _ _ = lin _ _
      rw [lin_sort _ _ dB, lin_drv]
  rw [q1, q2, ← lin_add]
  refine lin_congr fun s hs => ?_
  show lin _ B = lin _ B + lin _ B
  rw [← lin_add]
  exact lin_congr fun t ht => drvF_zip F i (rightL_in oA.right s hs) (rightL_in oB.right t ht) (by have := lA s hs; omega) (by have := lB t ht; omega)
theorem drv_twice {n : Nat} {M : List Tm} (h : LenT n M) (i j : Nat) : sortT (drvT j (sortT (drvT i M))) = sortT (drvT i (sortT (drvT j M))) := by
  have di := drvT_lenT (i := i) h
  have dj := drvT_lenT (i := j) h
  have ci := (sortT_canon _ di).len
  have cj := (sortT_canon _ dj).len
  refine canon_uniq _ _ (sortT_canon _ (drvT_lenT ci)) (sortT_canon _ (drvT_lenT cj)) fun F => ?_
  rw [lin_sort F _ (drvT_lenT ci), lin_drv, lin_sort _ _ di, lin_drv, lin_sort F _ (drvT_lenT cj), lin_drv, lin_sort _ _ dj, lin_drv]
  exact lin_congr fun t _ => drvF_comm F i j t.2
end Go.Proofs.YtcamcnahkdiefaaGreat
