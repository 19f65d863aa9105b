/- Plain: sums, products and derivatives by any weights. -/
import Derived.Test.YtcamcnahkdiefaaW3a
namespace Go.Proofs.Ytcamcnahkdiefaa
set_option linter.unusedVariables false
set_option linter.unusedSimpArgs false
/-- the powers' sum -/
abbrev zipE (e f : List Int) : List Int := List.zipWith (· + ·) e f
theorem lin_map_mul (F : List Int → UInt64) (s : Tm) (B : List Tm) : lin F (B.map (mul1 s)) = s.1 * lin (fun f => F (zipE s.2 f)) B := by
  induction B with
  | nil => simp [lin]
  | cons t B ih =>
    rw [List.map_cons, lin, ih, lin]
    show s.1 * t.1 * F (zipE s.2 t.2) + _ = _
    grind
theorem lin_mul (F : List Int → UInt64) (A B : List Tm) : lin F (mulT A B) = lin (fun e => lin (fun f => F (zipE e f)) B) A := by
  induction A with
  | nil => rfl
  | cons s A ih =>
    have : mulT (s :: A) B = B.map (mul1 s) ++ mulT A B := rfl
    rw [this, lin_append, lin_map_mul, ih, lin]
/-- weights of a derivative -/
def drvF (i : Nat) (F : List Int → UInt64) (e : List Int) : UInt64 := if 0 < e.getD i 0 then UInt64.ofNat (e.getD i 0).toNat * F (e.set i (e.getD i 0 - 1)) else 0
theorem lin_drv1 (F : List Int → UInt64) (i : Nat) (t : Tm) : lin F (drv1 i t) = t.1 * drvF i F t.2 := by
  unfold drv1 drvF
  split
  · rw [lin, lin]; grind
  · rw [lin]; grind
theorem lin_drv (F : List Int → UInt64) (i : Nat) (A : List Tm) : lin F (drvT i A) = lin (drvF i F) A := by
  induction A with
  | nil => rfl
  | cons t A ih =>
    have : drvT i (t :: A) = drv1 i t ++ drvT i A := rfl
    rw [this, lin_append, lin_drv1, ih, lin]
/-- weights that are alike on the powers that stand there -/
theorem lin_congr {F G : List Int → UInt64} {A : List Tm} (h : ∀ t ∈ A, F t.2 = G t.2) : lin F A = lin G A := by
  induction A with
  | nil => rfl
  | cons t A ih => rw [lin, lin, h t List.mem_cons_self, ih fun s hs => h s (List.mem_cons_of_mem _ hs)]
theorem lin_add (F G : List Int → UInt64) (A : List Tm) : lin (fun e => F e + G e) A = lin F A + lin G A := by
  induction A with
  | nil => simp [lin]
  | cons t A ih => rw [lin, lin, lin, ih]; grind
theorem zip_set_l : ∀ (s t : List Int) (i : Nat) (x : Int), i < s.length → i < t.length → zipE (s.set i x) t = (zipE s t).set i (x + t.getD i 0)
  | [], _, _, _, h, _ => by simp at h
  | a :: s, [], _, _, _, h => by simp at h
  | a :: s, b :: t, 0, x, _, _ => rfl
  | a :: s, b :: t, i + 1, x, h, k => by
    have := zip_set_l s t i x (by simpa using h) (by simpa using k)
    simpa [zipE] using this
theorem zip_comm : ∀ (s t : List Int), zipE s t = zipE t s
  | [], [] => rfl
  | [], _ :: _ => rfl
  | _ :: _, [] => rfl
  | a :: s, b :: t => by
    have := zip_comm s t
    simp [zipE] at this ⊢
    exact ⟨Int.add_comm _ _, this⟩
theorem zip_set_r (s t : List Int) (i : Nat) (x : Int) (h : i < s.length) (k : i < t.length) : zipE s (t.set i x) = (zipE s t).set i (s.getD i 0 + x) := by
  rw [zip_comm, zip_set_l t s i x k h, zip_comm, Int.add_comm]
theorem zip_getD (s t : List Int) (i : Nat) (h : i < s.length) (k : i < t.length) : (zipE s t).getD i 0 = s.getD i 0 + t.getD i 0 := by
  simp only [List.getD_eq_getElem?_getD, zipE, List.getElem?_zipWith, List.getElem?_eq_getElem h, List.getElem?_eq_getElem k]
  rfl
theorem ofNat_add (a b : Int) (ha : 0 ≤ a) (hb : 0 ≤ b) : UInt64.ofNat (a + b).toNat = UInt64.ofNat a.toNat + UInt64.ofNat b.toNat := by
  rw [Int.toNat_add ha hb, UInt64.ofNat_add]
theorem InE.getD {e : List Int} (h : InE e) (i : Nat) : 0 ≤ e.getD i 0 := by
  by_cases hi : i < e.length
  · have : e.getD i 0 ∈ e := by rw [List.getD_eq_getElem?_getD, List.getElem?_eq_getElem hi]; exact List.getElem_mem hi
    exact (h _ this).1
  · rw [List.getD_eq_getElem?_getD, List.getElem?_eq_none (by omega)]; exact Int.le_refl _
/-- the derivative of a product, power by power -/
theorem drvF_zip (F : List Int → UInt64) (i : Nat) {s t : List Int} (hs : InE s) (ht : InE t) (h : i < s.length) (k : i < t.length) :
    drvF i F (zipE s t) = drvF i (fun e => F (zipE e t)) s + drvF i (fun f => F (zipE s f)) t := by
  have ha := hs.getD i
  have hb := ht.getD i
  unfold drvF
  rw [zip_getD s t i h k]
  obtain ⟨a, hA⟩ : ∃ a, s.getD i 0 = a := ⟨_, rfl⟩
  obtain ⟨b, hB⟩ : ∃ b, t.getD i 0 = b := ⟨_, rfl⟩
  rw [hA] at ha
  rw [hB] at hb
  rw [hA, hB]
  show (if 0 < a + b then UInt64.ofNat (a + b).toNat * F ((zipE s t).set i (a + b - 1)) else 0) = (if 0 < a then UInt64.ofNat a.toNat * F (zipE (s.set i (a - 1)) t) else 0) + if 0 < b then UInt64.ofNat b.toNat * F (zipE s (t.set i (b - 1))) else 0
  rw [zip_set_l s t i (a - 1) h k, zip_set_r s t i (b - 1) h k, hA, hB, ofNat_add a b ha hb, show a - 1 + b = a + b - 1 by omega, show a + (b - 1) = a + b - 1 by omega]
  by_cases h1 : 0 < a
  · by_cases h2 : 0 < b
    · rw [if_pos (by omega), if_pos h1, if_pos h2]; grind
    · have hb0 : b = 0 := by omega
      subst hb0
      rw [if_pos (by omega), if_pos h1, if_neg h2]
      simp
  · have ha0 : a = 0 := by omega
    subst ha0
    by_cases h2 : 0 < b
    · rw [if_pos (by omega), if_neg h1, if_pos h2]; simp
    · rw [if_neg (by omega), if_neg h1, if_neg h2]; simp
theorem set_getD_ne {e : List Int} {i j : Nat} (h : i ≠ j) (x : Int) : (e.set i x).getD j 0 = e.getD j 0 := by
  simp only [List.getD_eq_getElem?_getD, List.getElem?_set_ne h]
/-- in whatever order two are derived by -/
theorem drvF_comm (F : List Int → UInt64) (i j : Nat) (e : List Int) : drvF i (drvF j F) e = drvF j (drvF i F) e := by
  by_cases hij : i = j
  · rw [hij]
  · unfold drvF
    rw [set_getD_ne hij, set_getD_ne (Ne.symm hij)]
    obtain ⟨a, hA⟩ : ∃ a, e.getD i 0 = a := ⟨_, rfl⟩
    obtain ⟨b, hB⟩ : ∃ b, e.getD j 0 = b := ⟨_, rfl⟩
    rw [hA, hB, List.set_comm _ _ (Ne.symm hij)]
    by_cases h1 : 0 < a
    · by_cases h2 : 0 < b
      · rw [if_pos h1, if_pos h2, if_pos h2, if_pos h1]; grind
      · rw [if_pos h1, if_neg h2, if_neg h2]; simp
    · by_cases h2 : 0 < b
      · rw [if_neg h1, if_pos h2, if_neg h1]; simp
      · rw [if_neg h1, if_neg h2]
theorem u64_pow_add (x : UInt64) (m n : Nat) : x ^ (m + n) = x ^ m * x ^ n := by
  induction n with
  | zero => rw [Nat.add_zero, UInt64.pow_zero]; grind
  | succ n ih => rw [show m + (n + 1) = (m + n) + 1 by omega, UInt64.pow_succ, UInt64.pow_succ, ih]; grind
theorem monR_zip (xs : List UInt64) : ∀ {e f : List Int}, InE e → InE f → e.length = f.length → monR xs (zipE e f) = monR xs e * monR xs f := by
  induction xs with
  | nil => intro e f _ _ _; simp [monR]
  | cons x xs ih =>
    intro e f he hf hl
    match e, f, hl with
    | [], [], _ => simp [monR]
    | a :: e, b :: f, hl =>
      show monR (x :: xs) ((a + b) :: zipE e f) = _
      rw [monR, monR, monR, ih he.tail hf.tail (by simpa using hl), Int.toNat_add he.head.1 hf.head.1, u64_pow_add]
      grind
theorem lin_scale (F : List Int → UInt64) (c : UInt64) (A : List Tm) : lin (fun e => c * F e) A = c * lin F A := by
  induction A with
  | nil => simp [lin]
  | cons t A ih => rw [lin, lin, ih]; grind
theorem lin_scaleR (F : List Int → UInt64) (c : UInt64) (A : List Tm) : lin (fun e => F e * c) A = lin F A * c := by
  induction A with
  | nil => simp [lin]
  | cons t A ih => rw [lin, lin, ih]; grind
/-- a product at numbers -/
theorem eval_mul (xs : List UInt64) {n : Nat} {A B : List Tm} (hA : LenT n A) (hB : LenT n B) (iA : ∀ t ∈ A, InE t.2) (iB : ∀ t ∈ B, InE t.2) : evalT xs (mulT A B) = evalT xs A * evalT xs B := by
  unfold evalT
  rw [lin_mul]
  have h1 : ∀ s ∈ A, lin (fun f => monR xs (zipE s.2 f)) B = monR xs s.2 * lin (monR xs) B := fun s hs => by
    rw [← lin_scale]
    exact lin_congr fun t ht => monR_zip xs (iA s hs) (iB t ht) (by rw [hA s hs, hB t ht])
  rw [lin_congr (F := fun e => lin (fun f => monR xs (zipE e f)) B) (G := fun e => monR xs e * lin (monR xs) B) h1, lin_scaleR]
theorem eval_add (xs : List UInt64) {n : Nat} {A B : List Tm} (h : LenT n (A ++ B)) : evalT xs (sortT (A ++ B)) = evalT xs A + evalT xs B := by
  unfold evalT
  rw [lin_sort _ _ h, lin_append]
/-- what is in order may be -/
theorem chk_of_canon {vars : Int} {n : Nat} : ∀ (pr : Option (List Int)) (l : List Tm), Canon n l → (∀ t ∈ l, rightT vars t.2 = true) → (∀ e, pr = some e → ∀ t ∈ l, ordR e t.2 < 0) → chkT vars pr l = true
  | pr, [], _, _, _ => by cases pr <;> rfl
  | pr, t :: l, hc, hr, hp => by
    have h1 : (t.1 != 0) = true := by simpa using hc.nz t List.mem_cons_self
    have h2 := hr t List.mem_cons_self
    have h3 : okPrev pr t.2 = true := by
      cases pr with
      | none => rfl
      | some e => exact decide_eq_true (hp e rfl t List.mem_cons_self)
    have h4 := chk_of_canon (some t.2) l hc.tail (fun s hs => hr s (List.mem_cons_of_mem _ hs)) (fun e he s hs => by
      injection he with he
      rw [← he]
      exact (List.pairwise_cons.1 hc.srt).1 s hs)
    rw [chkT, h1, h2, h3, h4]; rfl
theorem mem_sort {n : Nat} (l : List Tm) (h : LenT n l) : ∀ t ∈ sortT l, ∃ s ∈ l, s.2 = t.2 := by
  intro t ht
  refine Decidable.byContradiction fun hn => ?_
  have h0 : ∀ s ∈ l, s.2 ≠ t.2 := fun s hs e => hn ⟨s, hs, e⟩
  have h1 := lin_sort (dlt t.2) l h
  rw [lin_dlt_out t.2 l h0, lin_dlt_mem (sortT_canon l h) t ht] at h1
  exact (sortT_canon l h).nz t ht h1
theorem right_sort {vars : Int} {l : List Tm} (h : rightL vars l = true) : rightL vars (sortT l) = true := by
  refine List.all_eq_true.2 fun t ht => ?_
  obtain ⟨s, hs, e⟩ := mem_sort l (rightL_len h) t ht
  rw [← e]
  exact List.all_eq_true.1 h s hs
theorem mk_of_ok {vars : Int} {l : List Tm} (hv : ¬ (vars < 0 ∨ 64 < vars)) (hr : rightL vars l = true) (hl : (sortT l).length ≤ 4096) : mkE vars l = 0 ∧ mkV vars l = vars ∧ mkL vars l = sortT l := by
  have e : mkE vars l = 0 := by unfold mkE; rw [if_neg hv, if_neg (by rw [hr]; decide), if_neg (by omega)]
  exact ⟨e, by unfold mkV; rw [e]; rfl, by unfold mkL; rw [e]; rfl⟩
theorem check_sort {vars : Int} {l : List Tm} (hv : ¬ (vars < 0 ∨ 64 < vars)) (hr : rightL vars l = true) (hl : (sortT l).length ≤ 4096) : checkP vars (sortT l) = true := by
  unfold checkP
  rw [decide_eq_true (show 0 ≤ vars by omega), decide_eq_true (show vars ≤ 64 by omega), decide_eq_true hl, chk_of_canon none _ (sortT_canon l (rightL_len hr)) (List.all_eq_true.1 (right_sort hr)) (fun e he => by cases he)]
  rfl
/-- what came of terms that may be -/
theorem mk_ok0 {vars : Int} {l : List Tm} (h : mkE vars l = 0) : mkV vars l = vars ∧ mkL vars l = sortT l ∧ rightL vars l = true ∧ ¬ (vars < 0 ∨ 64 < vars) ∧ (sortT l).length ≤ 4096 ∧ checkP vars (sortT l) = true := by
  have h0 := h
  unfold mkE at h
  split at h
  · cases h
  · rename_i hv
    split at h
    · cases h
    · rename_i hr
      split at h
      · cases h
      · rename_i hl
        have hr' : rightL vars l = true := by simpa using hr
        exact ⟨by unfold mkV; rw [h0]; rfl, by unfold mkL; rw [h0]; rfl, hr', hv, by omega, check_sort hv hr' (by omega)⟩
end Go.Proofs.Ytcamcnahkdiefaa
