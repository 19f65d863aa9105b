/- Plain: polynomials as lists of terms, in order, put together. -/
import Derived.Test.YtcamcnahkdiefaaQa
namespace Go.Proofs.Ytcamcnahkdiefaa
set_option linter.unusedVariables false
set_option linter.unusedSimpArgs false
/-- a term: a number and powers -/
abbrev Tm := UInt64 × List Int
/-- which powers stand first -/
def ordR : List Int → List Int → Int
  | x :: xs, y :: ys => if y < x then -1 else if x < y then 1 else ordR xs ys
  | _, _ => 0
theorem ordR_self : ∀ a : List Int, ordR a a = 0
  | [] => rfl
  | x :: xs => by rw [ordR, if_neg (by omega), if_neg (by omega)]; exact ordR_self xs
theorem ordR_eq : ∀ {a b : List Int}, a.length = b.length → ordR a b = 0 → a = b
  | [], [], _, _ => rfl
  | [], y :: ys, h, _ => by simp at h
  | x :: xs, [], h, _ => by simp at h
  | x :: xs, y :: ys, h, k => by
    rw [ordR] at k
    split at k
    · omega
    · split at k
      · omega
      · rw [show x = y by omega, ordR_eq (by simpa using h) k]
theorem ordR_anti : ∀ a b : List Int, ordR b a = - ordR a b
  | [], [] => rfl
  | [], y :: ys => rfl
  | x :: xs, [] => rfl
  | x :: xs, y :: ys => by
    rw [ordR, ordR]
    by_cases h1 : y < x
    · have h2 : ¬ x < y := by omega
      simp [h1, h2]
    · by_cases h2 : x < y
      · simp [h1, h2]
      · simp only [h1, h2, if_false]; exact ordR_anti xs ys
theorem ordR_val : ∀ a b : List Int, ordR a b = -1 ∨ ordR a b = 0 ∨ ordR a b = 1
  | [], _ => .inr (.inl (by cases ‹List Int› <;> rfl))
  | x :: xs, [] => .inr (.inl rfl)
  | x :: xs, y :: ys => by
    rw [ordR]
    split
    · exact .inl rfl
    · split
      · exact .inr (.inr rfl)
      · exact ordR_val xs ys
theorem ordR_trans : ∀ {a b c : List Int}, a.length = b.length → b.length = c.length → ordR a b < 0 → ordR b c < 0 → ordR a c < 0
  | [], _, _, _, _, h, _ => by cases ‹List Int› <;> simp [ordR] at h
  | x :: xs, [], _, h, _, _, _ => by simp at h
  | x :: xs, y :: ys, [], _, h, _, _ => by simp at h
  | x :: xs, y :: ys, z :: zs, h, k, p, q => by
    rw [ordR] at p q ⊢
    by_cases h1 : y < x
    · by_cases h2 : z < y
      · rw [if_pos (by omega)]; decide
      · rw [if_neg h2] at q
        by_cases h3 : y < z
        · rw [if_pos h3] at q; omega
        · rw [if_pos (by omega)]; decide
    · rw [if_neg h1] at p
      by_cases h4 : x < y
      · rw [if_pos h4] at p; omega
      · rw [if_neg h4] at p
        by_cases h2 : z < y
        · rw [if_pos (by omega)]; decide
        · rw [if_neg h2] at q
          by_cases h3 : y < z
          · rw [if_pos h3] at q; omega
          · rw [if_neg h3] at q
            rw [if_neg (by omega), if_neg (by omega)]
            exact ordR_trans (by simpa using h) (by simpa using k) p q
/-- terms that are not nought -/
def nzT (l : List Tm) : List Tm := l.filter fun t => t.1 != 0
/-- two lists as one -/
def mergeT : List Tm → List Tm → List Tm
  | [], b => nzT b
  | x :: a, [] => nzT (x :: a)
  | x :: a, y :: b => if ordR x.2 y.2 < 0 then nzT [x] ++ mergeT a (y :: b) else if 0 < ordR x.2 y.2 then nzT [y] ++ mergeT (x :: a) b else nzT [(x.1 + y.1, x.2)] ++ mergeT a b
termination_by a b => a.length + b.length
/-- terms in order, put together, by halves -/
def sortT (l : List Tm) : List Tm := if h : 1 < l.length then mergeT (sortT (l.take (l.length / 2))) (sortT (l.drop (l.length / 2))) else nzT l
termination_by l.length
decreasing_by
  · rw [List.length_take]; omega
  · rw [List.length_drop]; omega
/-- any weights of powers, put together -/
def lin (F : List Int → UInt64) : List Tm → UInt64
  | [] => 0
  | t :: l => t.1 * F t.2 + lin F l
theorem lin_append (F : List Int → UInt64) (a b : List Tm) : lin F (a ++ b) = lin F a + lin F b := by
  induction a with
  | nil => simp [lin]
  | cons t a ih => simp only [List.cons_append, lin, ih]; grind
theorem lin_nz (F : List Int → UInt64) (l : List Tm) : lin F (nzT l) = lin F l := by
  induction l with
  | nil => rfl
  | cons t l ih =>
    unfold nzT at ih ⊢
    rw [List.filter_cons]
    split
    · simp only [lin, ih]
    · rename_i h
      have h0 : t.1 = 0 := by simpa using h
      rw [ih, lin, h0]; grind
/-- powers of one length -/
def LenT (n : Nat) (l : List Tm) : Prop := ∀ t ∈ l, t.2.length = n
theorem LenT.tail {n : Nat} {t : Tm} {l : List Tm} (h : LenT n (t :: l)) : LenT n l := fun s hs => h s (List.mem_cons_of_mem _ hs)
theorem LenT.head {n : Nat} {t : Tm} {l : List Tm} (h : LenT n (t :: l)) : t.2.length = n := h t List.mem_cons_self
theorem LenT.app {n : Nat} {a b : List Tm} (h : LenT n a) (k : LenT n b) : LenT n (a ++ b) := fun s hs => (List.mem_append.1 hs).elim (h s) (k s)
theorem nz_one (t : Tm) : nzT [t] = if t.1 = 0 then [] else [t] := by
  unfold nzT
  by_cases h : t.1 = 0
  · rw [if_pos h]; simp [h]
  · rw [if_neg h]; simp [h]
theorem nzT_cons (t : Tm) (l : List Tm) : nzT (t :: l) = nzT [t] ++ nzT l := by
  unfold nzT; rw [← List.filter_append]; rfl
theorem lin_merge (F : List Int → UInt64) {n : Nat} (a b : List Tm) (ha : LenT n a) (hb : LenT n b) : lin F (mergeT a b) = lin F a + lin F b := by
  fun_induction mergeT a b with
  | case1 b => rw [lin_nz, lin]; grind
  | case2 x a => rw [lin_nz, show lin F [] = 0 from rfl]; grind
  | case3 x a y b h ih => rw [lin_append, lin_nz, ih ha.tail hb]; simp only [lin]; grind
  | case4 x a y b h1 h2 ih => rw [lin_append, lin_nz, ih ha hb.tail]; simp only [lin]; grind
  | case5 x a y b h1 h2 ih =>
    have e : x.2 = y.2 := ordR_eq (by rw [ha.head, hb.head]) (by have := ordR_val x.2 y.2; omega)
    rw [lin_append, lin_nz, ih ha.tail hb.tail]; simp only [lin]; rw [e]; grind
theorem mem_nz {t : Tm} {l : List Tm} (h : t ∈ nzT l) : t.1 ≠ 0 ∧ t ∈ l := by
  unfold nzT at h
  have := List.mem_filter.1 h
  exact ⟨by simpa using this.2, this.1⟩
theorem mem_merge (a b : List Tm) (t : Tm) (h : t ∈ mergeT a b) : t.1 ≠ 0 ∧ ∃ s ∈ a ++ b, s.2 = t.2 := by
  fun_induction mergeT a b with
  | case1 b => exact ⟨(mem_nz h).1, t, by simpa using (mem_nz h).2, rfl⟩
  | case2 x a => exact ⟨(mem_nz h).1, t, by simpa using (mem_nz h).2, rfl⟩
  | case3 x a y b hc ih =>
    rcases List.mem_append.1 h with h | h
    · have hx : t = x := by simpa using (mem_nz h).2
      exact ⟨(mem_nz h).1, x, by simp, by rw [hx]⟩
    · obtain ⟨h1, s, hs, e⟩ := ih h
      exact ⟨h1, s, by simp only [List.mem_append, List.mem_cons] at hs ⊢; grind, e⟩
  | case4 x a y b hc hd ih =>
    rcases List.mem_append.1 h with h | h
    · have hx : t = y := by simpa using (mem_nz h).2
      exact ⟨(mem_nz h).1, y, by simp, by rw [hx]⟩
    · obtain ⟨h1, s, hs, e⟩ := ih h
      exact ⟨h1, s, by simp only [List.mem_append, List.mem_cons] at hs ⊢; grind, e⟩
  | case5 x a y b hc hd ih =>
    rcases List.mem_append.1 h with h | h
    · have hx : t = (x.1 + y.1, x.2) := by simpa using (mem_nz h).2
      exact ⟨(mem_nz h).1, x, by simp, by rw [hx]⟩
    · obtain ⟨h1, s, hs, e⟩ := ih h
      exact ⟨h1, s, by simp only [List.mem_append, List.mem_cons] at hs ⊢; grind, e⟩
/-- terms in order -/
def SrtT (l : List Tm) : Prop := l.Pairwise fun s t => ordR s.2 t.2 < 0
structure Canon (n : Nat) (l : List Tm) : Prop where
  srt : SrtT l
  nz : ∀ t ∈ l, t.1 ≠ 0
  len : LenT n l
theorem SrtT.nz {l : List Tm} (h : SrtT l) : SrtT (nzT l) := List.Pairwise.filter _ h
theorem SrtT.one (x : Tm) {l : List Tm} (h : ∀ t ∈ l, ordR x.2 t.2 < 0) (k : SrtT l) : SrtT (nzT [x] ++ l) := by
  rw [nz_one]
  split
  · exact k
  · exact List.pairwise_cons.2 ⟨h, k⟩
theorem merge_srt {n : Nat} (a b : List Tm) (ha : LenT n a) (hb : LenT n b) (sa : SrtT a) (sb : SrtT b) : SrtT (mergeT a b) := by
  fun_induction mergeT a b with
  | case1 b => exact sb.nz
  | case2 x a => exact sa.nz
  | case3 x a y b hc ih =>
    have sx := List.pairwise_cons.1 sa
    have sy := List.pairwise_cons.1 sb
    refine SrtT.one x (fun t ht => ?_) (ih ha.tail hb sx.2 sb)
    obtain ⟨_, s, hs, e⟩ := mem_merge _ _ t ht
    rw [← e]
    rcases List.mem_append.1 hs with hs | hs
    · exact sx.1 s hs
    · rcases List.mem_cons.1 hs with rfl | hs
      · exact hc
      · exact ordR_trans (by rw [ha.head, hb.head]) (by rw [hb.head, hb.tail s hs]) hc (sy.1 s hs)
  | case4 x a y b hc hd ih =>
    have sx := List.pairwise_cons.1 sa
    have sy := List.pairwise_cons.1 sb
    have hyx : ordR y.2 x.2 < 0 := by rw [ordR_anti]; omega
    refine SrtT.one y (fun t ht => ?_) (ih ha hb.tail sa sy.2)
    obtain ⟨_, s, hs, e⟩ := mem_merge _ _ t ht
    rw [← e]
    rcases List.mem_append.1 hs with hs | hs
    · rcases List.mem_cons.1 hs with rfl | hs
      · exact hyx
      · exact ordR_trans (by rw [ha.head, hb.head]) (by rw [ha.head, ha.tail s hs]) hyx (sx.1 s hs)
    · exact sy.1 s hs
  | case5 x a y b hc hd ih =>
    have sx := List.pairwise_cons.1 sa
    have sy := List.pairwise_cons.1 sb
    have e0 : x.2 = y.2 := ordR_eq (by rw [ha.head, hb.head]) (by have := ordR_val x.2 y.2; omega)
    refine SrtT.one (x.1 + y.1, x.2) (fun t ht => ?_) (ih ha.tail hb.tail sx.2 sy.2)
    obtain ⟨_, s, hs, e⟩ := mem_merge _ _ t ht
    show ordR x.2 t.2 < 0
    rw [← e]
    rcases List.mem_append.1 hs with hs | hs
    · exact sx.1 s hs
    · rw [e0]; exact sy.1 s hs
theorem mergeT_canon {n : Nat} {a b : List Tm} (ha : LenT n a) (hb : LenT n b) (sa : SrtT a) (sb : SrtT b) : Canon n (mergeT a b) :=
  ⟨merge_srt a b ha hb sa sb, fun t ht => (mem_merge a b t ht).1, fun t ht => by
    obtain ⟨_, s, hs, e⟩ := mem_merge a b t ht
    rw [← e]; exact (ha.app hb) s hs⟩
theorem LenT.take {n k : Nat} {l : List Tm} (h : LenT n l) : LenT n (l.take k) := fun t ht => h t (List.mem_of_mem_take ht)
theorem LenT.drop {n k : Nat} {l : List Tm} (h : LenT n l) : LenT n (l.drop k) := fun t ht => h t (List.mem_of_mem_drop ht)
theorem nz_canon {n : Nat} {l : List Tm} (h : LenT n l) (hl : l.length ≤ 1) : Canon n (nzT l) := by
  match l, hl with
  | [], _ => exact ⟨List.Pairwise.nil, fun t ht => by simp [nzT] at ht, fun t ht => by simp [nzT] at ht⟩
  | [x], _ =>
    refine ⟨?_, fun t ht => (mem_nz ht).1, fun t ht => h t (mem_nz ht).2⟩
    have := SrtT.one x (l := []) (fun t ht => by simp at ht) List.Pairwise.nil
    rwa [List.append_nil] at this
theorem sortT_canon {n : Nat} (l : List Tm) (h : LenT n l) : Canon n (sortT l) := by
  fun_induction sortT l with
  | case1 l hl ih1 ih2 =>
    have c1 := ih1 h.take
    have c2 := ih2 h.drop
    exact mergeT_canon c1.len c2.len c1.srt c2.srt
  | case2 l hl => exact nz_canon h (by omega)
theorem lin_sort (F : List Int → UInt64) {n : Nat} (l : List Tm) (h : LenT n l) : lin F (sortT l) = lin F l := by
  fun_induction sortT l with
  | case1 l hl ih1 ih2 =>
    rw [lin_merge F _ _ (sortT_canon _ h.take).len (sortT_canon _ h.drop).len, ih1 h.take, ih2 h.drop, ← lin_append, List.take_append_drop]
  | case2 l hl => exact lin_nz F l
/-- one alone -/
def dlt (e : List Int) : List Int → UInt64 := fun x => if x = e then 1 else 0
theorem lin_dlt_out (e : List Int) (l : List Tm) (h : ∀ t ∈ l, t.2 ≠ e) : lin (dlt e) l = 0 := by
  induction l with
  | nil => rfl
  | cons t l ih =>
    rw [lin, ih (fun s hs => h s (List.mem_cons_of_mem _ hs))]
    unfold dlt
    rw [if_neg (h t List.mem_cons_self)]; grind
theorem srt_ne {n : Nat} {x : Tm} {l : List Tm} (h : Canon n (x :: l)) : ∀ t ∈ l, t.2 ≠ x.2 := by
  intro t ht e
  have := (List.pairwise_cons.1 h.srt).1 t ht
  rw [e, ordR_self] at this
  omega
theorem lin_dlt_head {n : Nat} {x : Tm} {l : List Tm} (h : Canon n (x :: l)) : lin (dlt x.2) (x :: l) = x.1 := by
  rw [lin, lin_dlt_out x.2 l (srt_ne h)]
  unfold dlt
  rw [if_pos rfl]; grind
theorem Canon.tail {n : Nat} {x : Tm} {l : List Tm} (h : Canon n (x :: l)) : Canon n l := ⟨(List.pairwise_cons.1 h.srt).2, fun t ht => h.nz t (List.mem_cons_of_mem _ ht), h.len.tail⟩
theorem far_ne {n : Nat} {x y : Tm} {b : List Tm} (hx : x.2.length = n) (h : Canon n (y :: b)) (hc : ordR x.2 y.2 < 0) : ∀ t ∈ y :: b, t.2 ≠ x.2 := by
  intro t ht e
  have h1 : ordR x.2 t.2 < 0 := by
    rcases List.mem_cons.1 ht with rfl | ht
    · exact hc
    · exact ordR_trans (by rw [hx, h.len.head]) (by rw [h.len.head, h.len.tail t ht]) hc ((List.pairwise_cons.1 h.srt).1 t ht)
  rw [e, ordR_self] at h1
  omega
/-- what is in order, and not nought, is told by its weights -/
theorem canon_uniq {n : Nat} : ∀ (a b : List Tm), Canon n a → Canon n b → (∀ F, lin F a = lin F b) → a = b
  | [], [], _, _, _ => rfl
  | [], y :: b, _, hb, h => by
    have := h (dlt y.2)
    rw [lin_dlt_head hb] at this
    exact absurd this.symm (hb.nz y List.mem_cons_self)
  | x :: a, [], ha, _, h => by
    have := h (dlt x.2)
    rw [lin_dlt_head ha] at this
    exact absurd this (ha.nz x List.mem_cons_self)
  | x :: a, y :: b, ha, hb, h => by
    have hx := ha.len.head
    have hy := hb.len.head
    rcases ordR_val x.2 y.2 with hc | hc | hc
    · have h1 := h (dlt x.2)
      rw [lin_dlt_head ha, lin_dlt_out x.2 _ (far_ne hx hb (by omega))] at h1
      exact absurd h1 (ha.nz x List.mem_cons_self)
    · have e : x.2 = y.2 := ordR_eq (by rw [hx, hy]) hc
      have h1 := h (dlt x.2)
      rw [lin_dlt_head ha, e, lin_dlt_head hb] at h1
      have exy : x = y := Prod.ext h1 e
      rw [exy, canon_uniq a b ha.tail hb.tail (fun F => by
        have h2 := h F
        rw [lin, lin, exy] at h2
        grind)]
    · have hc' : ordR y.2 x.2 < 0 := by rw [ordR_anti]; omega
      have h1 := h (dlt y.2)
      rw [lin_dlt_head hb, lin_dlt_out y.2 _ (far_ne hy ha hc')] at h1
      exact absurd h1.symm (hb.nz y List.mem_cons_self)
theorem sort_uniq {n : Nat} {a : List Tm} {l : List Tm} (ha : Canon n a) (hl : LenT n l) (h : ∀ F, lin F a = lin F l) : a = sortT l :=
  canon_uniq a _ ha (sortT_canon l hl) fun F => by rw [h F, lin_sort F l hl]
theorem sort_self {n : Nat} {a : List Tm} (ha : Canon n a) : sortT a = a := (sort_uniq ha ha.len fun _ => rfl).symm
theorem sort_merge {n : Nat} {a b : List Tm} (ha : Canon n a) (hb : Canon n b) : sortT (mergeT a b) = sortT (a ++ b) := by
  have hm := mergeT_canon ha.len hb.len ha.srt hb.srt
  rw [sort_self hm]
  exact sort_uniq hm (ha.len.app hb.len) fun F => by rw [lin_merge F a b ha.len hb.len, lin_append]
end Go.Proofs.Ytcamcnahkdiefaa
