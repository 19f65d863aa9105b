/- Several texts of mine in one file. -/
import Derived.Test.YtcamcnahkdiefaaGreatYMCaa
import Derived.Test.YtcamcnahkdiefaaGreatYMCac
import Derived.Test.YtcamcnahkdiefaaGreatYMCad
/- Several texts of mine in one file: Po, Pa, Pb, Pc, Pd, Pe, Pf, Pg, Ph, Pm. -/
/- Plain: polynomials as lists of terms, in order, put together. -/
namespace Go.Proofs.YtcamcnahkdiefaaGreat
set_option linter.unusedVariables false
set_option linter.unusedSimpArgs false
abbrev Tm := UInt64 × List Int
def ordR : List Int → List Int → Int
  | x :: xs, y :: ys => if y < x then -1 else if x < y then 1 else ordR xs ys
  | _, _ => 0
theorem ordR_self : ∀ a : List Int, ordR a a = 0
  | [] => rfl
  | x :: xs => by rw [ordR, if_neg (by omega), if_neg (by omega)]; exact ordR_self xs
theorem ordR_eq : ∀ {a b : List Int}, a.length = b.length → ordR a b = 0 → a = b
  | [], [], _, _ => rfl
  | [], y :: ys, h, _ => by simp at h
  | x :: xs, [], h, _ => by simp at h
  | x :: xs, y :: ys, h, k => by
    rw [ordR] at k
    split at k
    · omega
    · split at k
      · omega
      · rw [show x = y by omega, ordR_eq (by simpa using h) k]
theorem ordR_anti : ∀ a b : List Int, ordR b a = - ordR a b
  | [], [] => rfl
  | [], y :: ys => rfl
  | x :: xs, [] => rfl
  | x :: xs, y :: ys => by
    rw [ordR, ordR]
    by_cases h1 : y < x
    · have h2 : ¬ x < y := by omega
      simp [h1, h2]
    · by_cases h2 : x < y
      · simp [h1, h2]
      · simp only [h1, h2, if_false]; exact ordR_anti xs ys
theorem ordR_val : ∀ a b : List Int, ordR a b = -1 ∨ ordR a b = 0 ∨ ordR a b = 1
  | [], _ => .inr (.inl (by cases ‹List Int› <;> rfl))
  | x :: xs, [] => .inr (.inl rfl)
  | x :: xs, y :: ys => by
    rw [ordR]
    split
    · exact .inl rfl
    · split
      · exact .inr (.inr rfl)
      · exact ordR_val xs ys
theorem ordR_trans : ∀ {a b c : List Int}, a.length = b.length → b.length = c.length → ordR a b < 0 → ordR b c < 0 → ordR a c < 0
  | [], _, _, _, _, h, _ => by cases ‹List Int› <;> simp [ordR] at h
  | x :: xs, [], _, h, _, _, _ => by simp at h
  | x :: xs, y :: ys, [], _, h, _, _ => by simp at h
  | x :: xs, y :: ys, z :: zs, h, k, p, q => by
    rw [ordR] at p q ⊢
    by_cases h1 : y < x
    · by_cases h2 : z < y
      · rw [if_pos (by omega)]; decide
      · rw [if_neg h2] at q
        by_cases h3 : y < z
        · rw [if_pos h3] at q; omega
        · rw [if_pos (by omega)]; decide
    · rw [if_neg h1] at p
      by_cases h4 : x < y
      · rw [if_pos h4] at p; omega
      · rw [if_neg h4] at p
        by_cases h2 : z < y
        · rw [if_pos (by omega)]; decide
        · rw [if_neg h2] at q
          by_cases h3 : y < z
          · rw [if_pos h3] at q; omega
          · rw [if_neg h3] at q
            rw [if_neg (by omega), if_neg (by omega)]
            exact ordR_trans (by simpa using h) (by simpa using k) p q
def nzT (l : List Tm) : List Tm := l.filter fun t => t.1 != 0
def mergeT : List Tm → List Tm → List Tm
  | [], b => nzT b
  | x :: a, [] => nzT (x :: a)
  | x :: a, y :: b => if ordR x.2 y.2 < 0 then nzT [x] ++ mergeT a (y :: b) else if 0 < ordR x.2 y.2 then nzT [y] ++ mergeT (x :: a) b else nzT [(x.1 + y.1, x.2)] ++ mergeT a b
termination_by a b => a.length + b.length
def sortT (l : List Tm) : List Tm := if h : 1 < l.length then mergeT (sortT (l.take (l.length / 2))) (sortT (l.drop (l.length / 2))) else nzT l
termination_by l.length
decreasing_by
  · rw [List.length_take]; omega
  · rw [List.length_drop]; omega
def lin (F : List Int → UInt64) : List Tm → UInt64
  | [] => 0
  | t :: l => t.1 * F t.2 + lin F l
theorem lin_append (F : List Int → UInt64) (a b : List Tm) : lin F (a ++ b) = lin F a + lin F b := by
  induction a with
  | nil => simp [lin]
  | cons t a ih => simp only [List.cons_append, lin, ih]; grind
theorem lin_nz (F : List Int → UInt64) (l : List Tm) : lin F (nzT l) = lin F l := by
  induction l with
  | nil => rfl
  | cons t l ih =>
    unfold nzT at ih ⊢
    rw [List.filter_cons]
    split
    · simp only [lin, ih]
    · rename_i h
      have h0 : t.1 = 0 := by simpa using h
      rw [ih, lin, h0]; grind
def LenT (n : Nat) (l : List Tm) : Prop := ∀ t ∈ l, t.2.length = n
theorem LenT.tail {n : Nat} {t : Tm} {l : List Tm} (h : LenT n (t :: l)) : LenT n l := fun s hs => h s (List.mem_cons_of_mem _ hs)
theorem LenT.head {n : Nat} {t : Tm} {l : List Tm} (h : LenT n (t :: l)) : t.2.length = n := h t List.mem_cons_self
theorem LenT.app {n : Nat} {a b : List Tm} (h : LenT n a) (k : LenT n b) : LenT n (a ++ b) := fun s hs => (List.mem_append.1 hs).elim (h s) (k s)
theorem nz_one (t : Tm) : nzT [t] = if t.1 = 0 then [] else [t] := by
  unfold nzT
  by_cases h : t.1 = 0
  · rw [if_pos h]; simp [h]
  · rw [if_neg h]; simp [h]
theorem nzT_cons (t : Tm) (l : List Tm) : nzT (t :: l) = nzT [t] ++ nzT l := by
  unfold nzT; rw [← List.filter_append]; rfl
theorem lin_merge (F : List Int → UInt64) {n : Nat} (a b : List Tm) (ha : LenT n a) (hb : LenT n b) : lin F (mergeT a b) = lin F a + lin F b := by
  fun_induction mergeT a b with
  | case1 b => rw [lin_nz, lin]; grind
  | case2 x a => rw [lin_nz, show lin F [] = 0 from rfl]; grind
  | case3 x a y b h ih => rw [lin_append, lin_nz, ih ha.tail hb]; simp only [lin]; grind
  | case4 x a y b h1 h2 ih => rw [lin_append, lin_nz, ih ha hb.tail]; simp only [lin]; grind
  | case5 x a y b h1 h2 ih =>
    have e : x.2 = y.2 := ordR_eq (by rw [ha.head, hb.head]) (by have := ordR_val x.2 y.2; omega)
    rw [lin_append, lin_nz, ih ha.tail hb.tail]; simp only [lin]; rw [e]; grind
theorem mem_nz {t : Tm} {l : List Tm} (h : t ∈ nzT l) : t.1 ≠ 0 ∧ t ∈ l := by
  unfold nzT at h
  have := List.mem_filter.1 h
  exact ⟨by simpa using this.2, this.1⟩
theorem mem_merge (a b : List Tm) (t : Tm) (h : t ∈ mergeT a b) : t.1 ≠ 0 ∧ ∃ s ∈ a ++ b, s.2 = t.2 := by
  fun_induction mergeT a b with
  | case1 b => exact ⟨(mem_nz h).1, t, by simpa using (mem_nz h).2, rfl⟩
  | case2 x a => exact ⟨(mem_nz h).1, t, by simpa using (mem_nz h).2, rfl⟩
  | case3 x a y b hc ih =>
    rcases List.mem_append.1 h with h | h
    · have hx : t = x := by simpa using (mem_nz h).2
      exact ⟨(mem_nz h).1, x, by simp, by rw [hx]⟩
    · obtain ⟨h1, s, hs, e⟩ := ih h
      exact ⟨h1, s, by simp only [List.mem_append, List.mem_cons] at hs ⊢; grind, e⟩
  | case4 x a y b hc hd ih =>
    rcases List.mem_append.1 h with h | h
    · have hx : t = y := by simpa using (mem_nz h).2
      exact ⟨(mem_nz h).1, y, by simp, by rw [hx]⟩
    · obtain ⟨h1, s, hs, e⟩ := ih h
      exact ⟨h1, s, by simp only [List.mem_append, List.mem_cons] at hs ⊢; grind, e⟩
  | case5 x a y b hc hd ih =>
    rcases List.mem_append.1 h with h | h
    · have hx : t = (x.1 + y.1, x.2) := by simpa using (mem_nz h).2
      exact ⟨(mem_nz h).1, x, by simp, by rw [hx]⟩
    · obtain ⟨h1, s, hs, e⟩ := ih h
      exact ⟨h1, s, by simp only [List.mem_append, List.mem_cons] at hs ⊢; grind, e⟩
def SrtT (l : List Tm) : Prop := l.Pairwise fun s t => ordR s.2 t.2 < 0
structure Canon (n : Nat) (l : List Tm) : Prop where
  srt : SrtT l
  nz : ∀ t ∈ l, t.1 ≠ 0
  len : LenT n l
theorem SrtT.nz {l : List Tm} (h : SrtT l) : SrtT (nzT l) := List.Pairwise.filter _ h
theorem SrtT.one (x : Tm) {l : List Tm} (h : ∀ t ∈ l, ordR x.2 t.2 < 0) (k : SrtT l) : SrtT (nzT [x] ++ l) := by
  rw [nz_one]
  split
  · exact k
  · exact List.pairwise_cons.2 ⟨h, k⟩
theorem merge_srt {n : Nat} (a b : List Tm) (ha : LenT n a) (hb : LenT n b) (sa : SrtT a) (sb : SrtT b) : SrtT (mergeT a b) := by
  fun_induction mergeT a b with
  | case1 b => exact sb.nz
  | case2 x a => exact sa.nz
  | case3 x a y b hc ih =>
    have sx := List.pairwise_cons.1 sa
    have sy := List.pairwise_cons.1 sb
    refine SrtT.one x (fun t ht => ?_) (ih ha.tail hb sx.2 sb)
    obtain ⟨_, s, hs, e⟩ := mem_merge _ _ t ht
    rw [← e]
    rcases List.mem_append.1 hs with hs | hs
    · exact sx.1 s hs
    · rcases List.mem_cons.1 hs with rfl | hs
      · exact hc
      · exact ordR_trans (by rw [ha.head, hb.head]) (by rw [hb.head, hb.tail s hs]) hc (sy.1 s hs)
  | case4 x a y b hc hd ih =>
    have sx := List.pairwise_cons.1 sa
    have sy := List.pairwise_cons.1 sb
    have hyx : ordR y.2 x.2 < 0 := by rw [ordR_anti]; omega
    refine SrtT.one y (fun t ht => ?_) (ih ha hb.tail sa sy.2)
    obtain ⟨_, s, hs, e⟩ := mem_merge _ _ t ht
    rw [← e]
    rcases List.mem_append.1 hs with hs | hs
    · rcases List.mem_cons.1 hs with rfl | hs
      · exact hyx
      · exact ordR_trans (by rw [ha.head, hb.head]) (by rw [ha.head, ha.tail s hs]) hyx (sx.1 s hs)
    · exact sy.1 s hs
  | case5 x a y b hc hd ih =>
    have sx := List.pairwise_cons.1 sa
    have sy := List.pairwise_cons.1 sb
    have e0 : x.2 = y.2 := ordR_eq (by rw [ha.head, hb.head]) (by have := ordR_val x.2 y.2; omega)
    refine SrtT.one (x.1 + y.1, x.2) (fun t ht => ?_) (ih ha.tail hb.tail sx.2 sy.2)
    obtain ⟨_, s, hs, e⟩ := mem_merge _ _ t ht
    show ordR x.2 t.2 < 0
    rw [← e]
    rcases List.mem_append.1 hs with hs | hs
    · exact sx.1 s hs
    · rw [e0]; exact sy.1 s hs
theorem mergeT_canon {n : Nat} {a b : List Tm} (ha : LenT n a) (hb : LenT n b) (sa : SrtT a) (sb : SrtT b) : Canon n (mergeT a b) :=
  ⟨merge_srt a b ha hb sa sb, fun t ht => (mem_merge a b t ht).1, fun t ht => by
    obtain ⟨_, s, hs, e⟩ := mem_merge a b t ht
    rw [← e]; exact (ha.app hb) s hs⟩
theorem LenT.take {n k : Nat} {l : List Tm} (h : LenT n l) : LenT n (l.take k) := fun t ht => h t (List.mem_of_mem_take ht)
theorem LenT.drop {n k : Nat} {l : List Tm} (h : LenT n l) : LenT n (l.drop k) := fun t ht => h t (List.mem_of_mem_drop ht)
theorem nz_canon {n : Nat} {l : List Tm} (h : LenT n l) (hl : l.length ≤ 1) : Canon n (nzT l) := by
  match l, hl with
  | [], _ => exact ⟨List.Pairwise.nil, fun t ht => by simp [nzT] at ht, fun t ht => by simp [nzT] at ht⟩
  | [x], _ =>
    refine ⟨?_, fun t ht => (mem_nz ht).1, fun t ht => h t (mem_nz ht).2⟩
    have := SrtT.one x (l := []) (fun t ht => by simp at ht) List.Pairwise.nil
    rwa [List.append_nil] at this
theorem sortT_canon {n : Nat} (l : List Tm) (h : LenT n l) : Canon n (sortT l) := by
  fun_induction sortT l with
  | case1 l hl ih1 ih2 =>
    have c1 := ih1 h.take
    have c2 := ih2 h.drop
    exact mergeT_canon c1.len c2.len c1.srt c2.srt
  | case2 l hl => exact nz_canon h (by omega)
theorem lin_sort (F : List Int → UInt64) {n : Nat} (l : List Tm) (h : LenT n l) : lin F (sortT l) = lin F l := by
  fun_induction sortT l with
  | case1 l hl ih1 ih2 =>
    rw [lin_merge F _ _ (sortT_canon _ h.take).len (sortT_canon _ h.drop).len, ih1 h.take, ih2 h.drop, ← lin_append, List.take_append_drop]
  | case2 l hl => exact lin_nz F l
def dlt (e : List Int) : List Int → UInt64 := fun x => if x = e then 1 else 0
theorem lin_dlt_out (e : List Int) (l : List Tm) (h : ∀ t ∈ l, t.2 ≠ e) : lin (dlt e) l = 0 := by
  induction l with
  | nil => rfl
  | cons t l ih =>
    rw [lin, ih (fun s hs => h s (List.mem_cons_of_mem _ hs))]
    unfold dlt
    rw [if_neg (h t List.mem_cons_self)]; grind
theorem srt_ne {n : Nat} {x : Tm} {l : List Tm} (h : Canon n (x :: l)) : ∀ t ∈ l, t.2 ≠ x.2 := by
  intro t ht e
  have := (List.pairwise_cons.1 h.srt).1 t ht
  rw [e, ordR_self] at this
  omega
theorem lin_dlt_head {n : Nat} {x : Tm} {l : List Tm} (h : Canon n (x :: l)) : lin (dlt x.2) (x :: l) = x.1 := by
  rw [lin, lin_dlt_out x.2 l (srt_ne h)]
  unfold dlt
  rw [if_pos rfl]; grind
theorem Canon.tail {n : Nat} {x : Tm} {l : List Tm} (h : Canon n (x :: l)) : Canon n l := ⟨(List.pairwise_cons.1 h.srt).2, fun t ht => h.nz t (List.mem_cons_of_mem _ ht), h.len.tail⟩
theorem far_ne {n : Nat} {x y : Tm} {b : List Tm} (hx : x.2.length = n) (h : Canon n (y :: b)) (hc : ordR x.2 y.2 < 0) : ∀ t ∈ y :: b, t.2 ≠ x.2 := by
  intro t ht e
  have h1 : ordR x.2 t.2 < 0 := by
    rcases List.mem_cons.1 ht with rfl | ht
    · exact hc
    · exact ordR_trans (by rw [hx, h.len.head]) (by rw [h.len.head, h.len.tail t ht]) hc ((List.pairwise_cons.1 h.srt).1 t ht)
  rw [e, ordR_self] at h1
  omega
theorem canon_uniq {n : Nat} : ∀ (a b : List Tm), Canon n a → Canon n b → (∀ F, lin F a = lin F b) → a = b
  | [], [], _, _, _ => rfl
  | [], y :: b, _, hb, h => by
    have := h (dlt y.2)
    rw [lin_dlt_head hb] at this
    exact absurd this.symm (hb.nz y List.mem_cons_self)
  | x :: a, [], ha, _, h => by
    have := h (dlt x.2)
    rw [lin_dlt_head ha] at this
    exact absurd this (ha.nz x List.mem_cons_self)
  | x :: a, y :: b, ha, hb, h => by
    have hx := ha.len.head
    have hy := hb.len.head
    rcases ordR_val x.2 y.2 with hc | hc | hc
    · have h1 := h (dlt x.2)
      rw [lin_dlt_head ha, lin_dlt_out x.2 _ (far_ne hx hb (by omega))] at h1
      exact absurd h1 (ha.nz x List.mem_cons_self)
    · have e : x.2 = y.2 := ordR_eq (by rw [hx, hy]) hc
      have h1 := h (dlt x.2)
      rw [lin_dlt_head ha, e, lin_dlt_head hb] at h1
      have exy : x = y := Prod.ext h1 e
      rw [exy, canon_uniq a b ha.tail hb.tail (fun F => by
        have h2 := h F
        rw [lin, lin, exy] at h2
        grind)]
    · have hc' : ordR y.2 x.2 < 0 := by rw [ordR_anti]; omega
      have h1 := h (dlt y.2)
      rw [lin_dlt_head hb, lin_dlt_out y.2 _ (far_ne hy ha hc')] at h1
      exact absurd h1.symm (hb.nz y List.mem_cons_self)
theorem sort_uniq {n : Nat} {a : List Tm} {l : List Tm} (ha : Canon n a) (hl : LenT n l) (h : ∀ F, lin F a = lin F l) : a = sortT l :=
  canon_uniq a _ ha (sortT_canon l hl) fun F => by rw [h F, lin_sort F l hl]
theorem sort_self {n : Nat} {a : List Tm} (ha : Canon n a) : sortT a = a := (sort_uniq ha ha.len fun _ => rfl).symm
theorem sort_merge {n : Nat} {a b : List Tm} (ha : Canon n a) (hb : Canon n b) : sortT (mergeT a b) = sortT (a ++ b) := by
  have hm := mergeT_canon ha.len hb.len ha.srt hb.srt
  rw [sort_self hm]
  exact sort_uniq hm (ha.len.app hb.len) fun F => by rw [lin_merge F a b ha.len hb.len, lin_append]
end Go.Proofs.YtcamcnahkdiefaaGreat

/- Polynomials in memory; which powers may be, which stand first. -/
namespace Go.Proofs.YtcamcnahkdiefaaGreat
set_option linter.unusedVariables false
set_option linter.unusedSimpArgs false
open Go.RowKit
theorem below_box (w : World) (o : Obj) : Below w.heap.size w (w.alloc o) := (Below.refl _ _).alloc (Nat.le_refl _) _
structure TmH where
  c : UInt64
  a : Option Addr
  n : Nat
  k : Nat
instance : Flat TmH := ⟨2, fun x => [.int .u64 (x.c.toNat : Int), .slice x.a x.n x.k], fun _ => rfl, fun x u hu => by simp at hu; rcases hu with rfl | rfl <;> rfl, by decide⟩
instance : Inhabited TmH := ⟨⟨0, none, 0, 0⟩⟩
def TmH.of (w : World) (h : TmH) (t : Tm) : Prop := h.c = t.1 ∧ h.n = t.2.length ∧ h.n ≤ h.k ∧ h.k ≤ 9223372036854775807 ∧ At w h.a t.2
def AtT (w : World) (a : Option Addr) (ts : List Tm) : Prop := ∃ hs : List TmH, At w a hs ∧ hs.length = ts.length ∧ ∀ (i : Nat) (h : TmH) (t : Tm), hs[i]? = some h → ts[i]? = some t → TmH.of w h t
theorem TmH.of.belowN {w w' : World} {h : TmH} {t : Tm} (k : TmH.of w h t) (hb : Below w.heap.size w w') : TmH.of w' h t := ⟨k.1, k.2.1, k.2.2.1, k.2.2.2.1, k.2.2.2.2.belowN hb⟩
theorem AtT.belowN {w w' : World} {a : Option Addr} {ts : List Tm} (h : AtT w a ts) (hb : Below w.heap.size w w') : AtT w' a ts := by
  obtain ⟨hs, h1, h2, h3⟩ := h
  exact ⟨hs, h1.belowN hb, h2, fun i y t e1 e2 => (h3 i y t e1 e2).belowN hb⟩
theorem AtT.nil (w : World) (a : Option Addr) : AtT w a [] := ⟨[], At.nil _ _, rfl, fun i h t e => by simp at e⟩
theorem AtT.get {w wr : World} {a : Option Addr} {ts : List Tm} (h : AtT w a ts) (hb : Below w.heap.size w wr) {k : Nat} (hk : k < ts.length) :
    ∃ (b off : Nat) (t : Tm) (ea : Option Addr) (en ec : Nat), a = some ⟨b, off, none⟩ ∧ Hid (ts[k]? = some t) ∧ wr.cell? ⟨b, off + k * 2, none⟩ = some (.int .u64 (t.1.toNat : Int)) ∧ wr.cell? ⟨b, off + k * 2 + 1, none⟩ = some (.slice ea en ec) ∧ Hid (en = t.2.length) ∧ en ≤ ec ∧ ec ≤ 9223372036854775807 ∧ At wr ea t.2 := by
  obtain ⟨hs, h1, h2, h3⟩ := h
  obtain ⟨b, off, y, e, hy, hc⟩ := (h1.belowN hb).get (k := k) (by omega)
  have ht : ts[k]? = some ts[k] := List.getElem?_eq_getElem hk
  obtain ⟨q1, q2, q3, q4, q5⟩ := (h3 k y _ hy.out ht).belowN hb
  have c0 := hc 0 _ rfl
  have c1 := hc 1 _ rfl
  refine ⟨b, off, ts[k], y.a, y.n, y.k, e, hide ht, ?_, ?_, hide q2, q3, q4, q5⟩
  · rw [← q1]; simpa [Flat.n] using c0
  · simpa [Flat.n] using c1
def rightT (vars : Int) (e : List Int) : Bool := decide ((e.length : Int) = vars) && !e.any fun n => decide (n < 0) || decide (65535 < n)
theorem rightT_len {vars : Int} {e : List Int} (h : rightT vars e = true) : (e.length : Int) = vars := by
  unfold rightT at h
  simp only [Bool.and_eq_true, decide_eq_true_eq] at h
  exact h.1
theorem rightT_in {vars : Int} {e : List Int} (h : rightT vars e = true) : ∀ n ∈ e, 0 ≤ n ∧ n ≤ 65535 := by
  unfold rightT at h
  simp only [Bool.and_eq_true, decide_eq_true_eq, Bool.not_eq_true', List.any_eq_false, Bool.or_eq_true] at h
  intro n hn
  have := h.2 n hn
  omega
set_option maxHeartbeats 1600000 in
theorem RRight_calls (vars : Int) (a : Option Addr) (n c : Nat) (e : List Int) (hn : n = e.length) (w : World) (h : At w a e) (hl : n ≤ 1000000) (B : Bool) (hB : rightT vars e = B) :
    Calls Tryz.prog 101 #[.int .i64 vars, .slice a n c] w fun v w' => v = .returned (.bool B) ∧ w = w' := by
  unfold rightT at hB
  rw [← hn] at hB
  by_cases hv : (n : Int) = vars
  · rw [decide_eq_true hv, Bool.true_and] at hB
    obtain ⟨A, hA⟩ : ∃ A, (e.any fun n => decide (n < 0) || decide (65535 < n)) = A := ⟨_, rfl⟩
    rw [hA] at hB
    have HA := hide hA
    have HN := hide hn
    have HB := hide hB
    subst hv
    have e1 : ((n : Int) != (n : Int)) = false := by simp
    clear hA hn hB
    go_enter Tryz.func101, Tryz.ntmps101
    go_wp2
    go_loopw [5] (fun i wr => ∃ k : Nat, i = .int .i64 k ∧ k ≤ n ∧ Hid (((e.drop k).any fun n => decide (n < 0) || decide (65535 < n)) = A) ∧ wr = w) (fun i _ => n - (intOf i).toNat)
    case atStart => exact ⟨0, rfl, by omega, HA.out, rfl⟩
    case round =>
      obtain ⟨k, rfl, hk, hAk, rfl⟩ := hrel
      by_cases hlt : k < n
      · obtain ⟨b1, off1, x, rfl, hx, x0⟩ := h.getI (Below.refl _ _) (k := k) (by rw [← HN.out]; exact hlt)
        have hA2 := hAk.out
        rw [drop_at hx.out, List.any_cons] at hA2
        have hk0 : (0 : Int) ≤ (k : Int) := by omega
        have hk1 : (k : Int) < (n : Int) := by omega
        clear hx
        by_cases hx1 : x < 0
        · have HR : Hid (A = true) := by show A = true; rw [← hA2, decide_eq_true hx1]; rfl
          have HRB : Hid (B = false) := by show B = false; rw [← HB.out, HR.out]; rfl
          clear hA2
          go_wp2
          go_ret
          exact ⟨by rw [HRB.out]; rfl, rfl⟩
        · by_cases hx2 : 65535 < x
          · have HR : Hid (A = true) := by show A = true; rw [← hA2, decide_eq_true hx2, Bool.or_true]; rfl
            have HRB : Hid (B = false) := by show B = false; rw [← HB.out, HR.out]; rfl
            clear hA2
            go_wp2
            go_ret
            exact ⟨by rw [HRB.out]; rfl, rfl⟩
          · rw [decide_eq_false hx1, decide_eq_false hx2] at hA2
            have HA2 := hide hA2
            clear hA2
            go_wp2
            go_roundw
            case rel => exact ⟨k + 1, by go_num, by omega, HA2.out, by first | rfl | trivial⟩
            case measure => simp [intOf]; omega
      · obtain rfl : k = n := by omega
        have hA2 := hAk.out
        rw [List.drop_eq_nil_of_le (by rw [← HN.out]; exact Nat.le_refl _)] at hA2
        have HRB : Hid (B = true) := by show B = true; rw [← HB.out, ← hA2]; rfl
        clear hA2
        go_wp2
        go_ret
        exact ⟨by rw [HRB.out]; rfl, rfl⟩
  · rw [decide_eq_false hv, Bool.false_and] at hB
    subst hB
    have e1 : ((n : Int) != vars) = true := by simpa using hv
    have e2 : ((n : Int) == vars) = false := by simpa using hv
    clear hv
    go_enter Tryz.func101, Tryz.ntmps101
    go_wp2
    go_ret
    exact ⟨rfl, rfl⟩
set_option maxHeartbeats 1600000 in
theorem Order_calls (a b : Option Addr) (n m ca cb : Nat) (e f : List Int) (hn : n = e.length) (hm : m = f.length) (hnm : n = m) (w : World) (h : At w a e) (h' : At w b f) (hl : n ≤ 1000000) (R : Int) (hR : ordR e f = R) :
    Calls Tryz.prog 65 #[.slice a n ca, .slice b m cb] w fun v w' => v = .returned (.int .i64 R) ∧ ∃ q, w' = w.drewN q := by
  have HN := hide hn
  have HM := hide hm
  have HR := hide hR
  subst hnm
  clear hn hm hR
  go_enter Tryz.func65, Tryz.ntmps65
  go_wp2
  go_loopw [5] (fun i wr => ∃ k : Nat, i = .int .i64 k ∧ k ≤ n ∧ Hid (ordR (e.drop k) (f.drop k) = R) ∧ ∃ q, wr = w.drewN q) (fun i _ => n - (intOf i).toNat)
  case atStart => exact ⟨0, rfl, by omega, HR.out, 0, rfl⟩
  case round =>
    obtain ⟨k, rfl, hk, hRk, q, rfl⟩ := hrel
    have hbq := below_drawn w w.heap.size q
    by_cases hlt : k < n
    · obtain ⟨b1, off1, x, rfl, hx, x0⟩ := h.getI (Below.refl _ _) (k := k) (by rw [← HN.out]; exact hlt)
      obtain ⟨b2, off2, y, rfl, hy, y0⟩ := h'.getI (Below.refl _ _) (k := k) (by rw [← HM.out]; exact hlt)
      have hR2 := hRk.out
      rw [drop_at hx.out, drop_at hy.out, ordR] at hR2
      have hk0 : (0 : Int) ≤ (k : Int) := by omega
      have hk1 : (k : Int) < (n : Int) := by omega
      clear hx hy
      by_cases hxy : y < x
      · rw [if_pos hxy] at hR2
        subst hR2
        go_wp2
        go_quiet (fail)
        go_wp2
        go_ret
        exact ⟨rfl, by first | exact ⟨_, rfl⟩ | exact ⟨_, World.drewN_drewN _ _ _⟩ | exact ⟨_, by simp only [World.drewN_drewN]; rfl⟩⟩
      · rw [if_neg hxy] at hR2
        by_cases hyx : x < y
        · rw [if_pos hyx] at hR2
          subst hR2
          go_wp2
          go_quiet (fail)
          go_wp2
          go_quiet (fail)
          go_wp2
          go_ret
          exact ⟨rfl, by first | exact ⟨_, rfl⟩ | exact ⟨_, World.drewN_drewN _ _ _⟩ | exact ⟨_, by simp only [World.drewN_drewN]; rfl⟩⟩
        · rw [if_neg hyx] at hR2
          have HR2 := hide hR2
          clear hR2
          go_wp2
          go_quiet (fail)
          go_wp2
          go_quiet (fail)
          go_wp2
          go_roundw
          case rel => exact ⟨k + 1, by go_num, by omega, HR2.out, _, rfl⟩
          case measure => simp [intOf]; omega
    · obtain rfl : k = n := by omega
      have hR2 := hRk.out
      rw [List.drop_eq_nil_of_le (by rw [← HN.out]; exact Nat.le_refl _)] at hR2
      have hR3 : R = 0 := by rw [← hR2, ordR]; intros; simp_all
      subst hR3
      clear hR2
      go_wp2
      go_ret
      exact ⟨rfl, by first | exact ⟨_, rfl⟩ | exact ⟨_, World.drewN_drewN _ _ _⟩ | exact ⟨_, by simp only [World.drewN_drewN]; rfl⟩⟩
end Go.Proofs.YtcamcnahkdiefaaGreat

/- poly.right; how powers are compared. -/
namespace Go.Proofs.YtcamcnahkdiefaaGreat
set_option linter.unusedVariables false
set_option linter.unusedSimpArgs false
open Go.RowKit
def outB (n : Int) : Bool := decide (n < 0) || decide (65535 < n)
theorem RightClo_calls (n : Int) (w : World) : Calls Tryz.prog 141 #[.int .i64 n] w fun v w' => v = .returned (.bool (outB n)) ∧ w = w' := by
  unfold outB
  by_cases h : n < 0
  · have e : (decide (n < 0) || decide (65535 < n)) = true := by rw [decide_eq_true h]; rfl
    rw [e]
    clear e
    go_enter Tryz.func141, Tryz.ntmps141
    go_wp2
    go_ret
    exact ⟨rfl, rfl⟩
  · by_cases h2 : 65535 < n
    · have e : (decide (n < 0) || decide (65535 < n)) = true := by rw [decide_eq_true h2, Bool.or_true]
      rw [e]
      clear e
      go_enter Tryz.func141, Tryz.ntmps141
      go_wp2
      go_ret
      exact ⟨rfl, rfl⟩
    · have e : (decide (n < 0) || decide (65535 < n)) = false := by rw [decide_eq_false h, decide_eq_false h2]; rfl
      rw [e]
      clear e
      go_enter Tryz.func141, Tryz.ntmps141
      go_wp2
      go_ret
      exact ⟨rfl, rfl⟩
set_option maxHeartbeats 1600000 in
theorem IndexRt_calls (a : Option Addr) (n c : Nat) (e : List Int) (hn : n = e.length) (w : World) (h : At w a e) (hl : n ≤ 1000000) (A : Bool) (hA : e.any outB = A) :
    Calls Tryz.prog 165 #[.slice a n c, .func (.func 141) #[] #[]] w fun v w' => (A = true → ∃ j : Nat, v = .returned (.int .i64 (j : Int))) ∧ (A = false → v = .returned (.int .i64 (-1))) ∧ w = w' := by
  have HA := hide hA
  have HN := hide hn
  clear hA hn
  go_enter Tryz.func165, Tryz.ntmps165
  go_wp2
  go_loopw [8] (fun i wr => ∃ k : Nat, i = .int .i64 k ∧ k ≤ n ∧ Hid ((e.drop k).any outB = A) ∧ wr = w) (fun i _ => n - (intOf i).toNat)
  case atStart => exact ⟨0, rfl, by omega, HA.out, rfl⟩
  case round =>
    obtain ⟨k, rfl, hk, hAk, rfl⟩ := hrel
    by_cases hlt : k < n
    · obtain ⟨b1, off1, x, rfl, hx, x0⟩ := h.getI (Below.refl _ _) (k := k) (by rw [← HN.out]; exact hlt)
      have hA2 := hAk.out
      rw [drop_at hx.out, List.any_cons] at hA2
      have hk0 : (0 : Int) ≤ (k : Int) := by omega
      have hk1 : (k : Int) < (n : Int) := by omega
      have HC := hide (RightClo_calls x wr)
      clear hx
      cases hp : outB x with
      | true =>
        rw [hp] at hA2 HC
        have HR : Hid (A = true) := by show A = true; rw [← hA2]; rfl
        clear hA2 hp
        go_wp2_with (go_at_call 141; go_must ((with_reducible refine (HC.out).mono ?_); rintro v w1 ⟨rfl, rfl⟩))
        go_ret
        exact ⟨fun _ => ⟨k, rfl⟩, fun h => (by rw [HR.out] at h; cases h), rfl⟩
      | false =>
        rw [hp] at hA2 HC
        have HA2 := hide hA2
        clear hA2 hp
        go_wp2_with (go_at_call 141; go_must ((with_reducible refine (HC.out).mono ?_); rintro v w1 ⟨rfl, rfl⟩))
        go_roundw
        case rel => exact ⟨k + 1, by go_num, by omega, HA2.out, by first | rfl | trivial⟩
        case measure => simp [intOf]; omega
    · obtain rfl : k = n := by omega
      have hA2 := hAk.out
      rw [List.drop_eq_nil_of_le (by rw [← HN.out]; exact Nat.le_refl _)] at hA2
      have HR : Hid (A = false) := by show A = false; rw [← hA2]; rfl
      clear hA2
      go_wp2
      go_ret
      exact ⟨fun h => (by rw [HR.out] at h; cases h), fun _ => rfl, rfl⟩
theorem ContRt_calls (a : Option Addr) (n c : Nat) (e : List Int) (hn : n = e.length) (w : World) (h : At w a e) (hl : n ≤ 1000000) (A : Bool) (hA : e.any outB = A) :
    Calls Tryz.prog 140 #[.slice a n c, .func (.func 141) #[] #[]] w fun v w' => v = .returned (.bool A) ∧ w = w' := by
  have HI := hide (IndexRt_calls a n c e hn w h hl A hA)
  clear hA hn
  cases A with
  | true =>
    go_enter Tryz.func140, Tryz.ntmps140
    go_wp2_with (go_at_call 165; go_must ((with_reducible refine (HI.out).mono ?_); rintro v w1 ⟨h1, _, rfl⟩; obtain ⟨j, rfl⟩ := h1 rfl; have hj : (0 : Int) ≤ (j : Int) := by omega))
    go_ret
    exact ⟨rfl, rfl⟩
  | false =>
    go_enter Tryz.func140, Tryz.ntmps140
    go_wp2_with (go_at_call 165; go_must ((with_reducible refine (HI.out).mono ?_); rintro v w1 ⟨_, h1, rfl⟩; obtain rfl := h1 rfl))
    go_ret
    exact ⟨rfl, rfl⟩
set_option maxHeartbeats 800000 in
theorem PRight_calls (vars : Int) (a : Option Addr) (n c : Nat) (e : List Int) (hn : n = e.length) (w : World) (h : At w a e) (hl : n ≤ 1000000) (B : Bool) (hB : rightT vars e = B) :
    Calls Tryz.prog 99 #[.int .i64 vars, .slice a n c] w fun v w' => v = .returned (.bool B) ∧ w = w' := by
  unfold rightT at hB
  rw [← hn] at hB
  by_cases hv : (n : Int) = vars
  · rw [decide_eq_true hv, Bool.true_and] at hB
    have HC := hide (ContRt_calls a n c e hn w h hl (!B) (by rw [← hB, Bool.not_not]; rfl))
    subst hv
    have e1 : ((n : Int) == (n : Int)) = true := by simp
    clear hB hn
    go_enter Tryz.func99, Tryz.ntmps99
    go_wp2_with (go_at_call 140; go_must ((with_reducible refine (HC.out).mono ?_); rintro v w1 ⟨rfl, rfl⟩))
    go_ret
    exact ⟨by simp, rfl⟩
  · rw [decide_eq_false hv, Bool.false_and] at hB
    subst hB
    have e1 : ((n : Int) != vars) = true := by simpa using hv
    have e2 : ((n : Int) == vars) = false := by simpa using hv
    clear hv hn
    go_enter Tryz.func99, Tryz.ntmps99
    go_wp2
    go_ret
    exact ⟨rfl, rfl⟩
theorem IsNaN_calls (x : Int) (w : World) : Calls Tryz.prog 166 #[.int .i64 x] w fun v w' => v = .returned (.bool false) ∧ w = w' := by
  have e : (x != x) = false := by simp
  go_enter Tryz.func166, Tryz.ntmps166
  go_wp2
  go_ret
  exact ⟨rfl, rfl⟩
theorem CmpI_calls (x y : Int) (w : World) (R : Int) (hR : (if y < x then 1 else if x < y then -1 else 0) = R) : Calls Tryz.prog 142 #[.int .i64 x, .int .i64 y] w fun v w' => v = .returned (.int .i64 R) ∧ w = w' := by
  have HX := hide (IsNaN_calls x w)
  have HY := hide (IsNaN_calls y w)
  by_cases h1 : y < x
  · rw [if_pos h1] at hR
    subst hR
    have h2 : ¬ x < y := by omega
    go_enter Tryz.func142, Tryz.ntmps142
    go_wp2_with (go_at_call 166; (first | ((with_reducible refine (HX.out).mono ?_); rintro v w1 ⟨rfl, rfl⟩) | ((with_reducible refine (HY.out).mono ?_); rintro v w1 ⟨rfl, rfl⟩)))
    go_ret
    exact ⟨rfl, rfl⟩
  · rw [if_neg h1] at hR
    by_cases h2 : x < y
    · rw [if_pos h2] at hR
      subst hR
      go_enter Tryz.func142, Tryz.ntmps142
      go_wp2_with (go_at_call 166; (first | ((with_reducible refine (HX.out).mono ?_); rintro v w1 ⟨rfl, rfl⟩) | ((with_reducible refine (HY.out).mono ?_); rintro v w1 ⟨rfl, rfl⟩)))
      go_ret
      exact ⟨rfl, rfl⟩
    · rw [if_neg h2] at hR
      subst hR
      go_enter Tryz.func142, Tryz.ntmps142
      go_wp2_with (go_at_call 166; (first | ((with_reducible refine (HX.out).mono ?_); rintro v w1 ⟨rfl, rfl⟩) | ((with_reducible refine (HY.out).mono ?_); rintro v w1 ⟨rfl, rfl⟩)))
      go_ret
      exact ⟨rfl, rfl⟩
set_option maxHeartbeats 1600000 in
theorem Compare_calls (a b : Option Addr) (n ca cb : Nat) (e f : List Int) (hn : n = e.length) (hm : n = f.length) (w : World) (h : At w a e) (h' : At w b f) (hl : n ≤ 1000000) (R : Int) (hR : - ordR e f = R) :
    Calls Tryz.prog 100 #[.slice a n ca, .slice b n cb] w fun v w' => v = .returned (.int .i64 R) ∧ w = w' := by
  have HN := hide hn
  have HM := hide hm
  have HR := hide hR
  clear hn hm hR
  go_enter Tryz.func100, Tryz.ntmps100
  go_wp2
  go_loopw [11] (fun i wr => ∃ k : Nat, i = .int .i64 k ∧ k ≤ n ∧ Hid (- ordR (e.drop k) (f.drop k) = R) ∧ wr = w) (fun i _ => n - (intOf i).toNat)
  case atStart => exact ⟨0, rfl, by omega, HR.out, rfl⟩
  case round =>
    obtain ⟨k, rfl, hk, hRk, rfl⟩ := hrel
    by_cases hlt : k < n
    · obtain ⟨b1, off1, x, rfl, hx, x0⟩ := h.getI (Below.refl _ _) (k := k) (by rw [← HN.out]; exact hlt)
      obtain ⟨b2, off2, y, rfl, hy, y0⟩ := h'.getI (Below.refl _ _) (k := k) (by rw [← HM.out]; exact hlt)
      have hR2 := hRk.out
      rw [drop_at hx.out, drop_at hy.out, ordR] at hR2
      have hk0 : (0 : Int) ≤ (k : Int) := by omega
      have hk1 : (k : Int) < (n : Int) := by omega
      have hk2 : ¬ (n : Int) ≤ (k : Int) := by omega
      obtain ⟨S, hS⟩ : ∃ S : Int, (if y < x then 1 else if x < y then -1 else 0) = S := ⟨_, rfl⟩
      have HC := hide (CmpI_calls x y wr S hS)
      clear hx hy
      by_cases hS0 : S = 0
      · have h1 : ¬ y < x := by intro q; rw [if_pos q] at hS; omega
        have h2 : ¬ x < y := by intro q; rw [if_neg h1, if_pos q] at hS; omega
        rw [if_neg h1, if_neg h2] at hR2
        have HR2 := hide hR2
        subst hS0
        clear hS hR2
        go_wp2_with (go_at_call 142; go_must ((with_reducible refine (HC.out).mono ?_); rintro v w1 ⟨rfl, rfl⟩))
        go_roundw
        case rel => exact ⟨k + 1, by go_num, by omega, HR2.out, by first | rfl | trivial⟩
        case measure => simp [intOf]; omega
      · have e1 : (S == 0) = false := by simpa using hS0
        have e2 : (S != 0) = true := by simpa using hS0
        have HRS : Hid (R = S) := by
          show R = S
          rw [← hR2, ← hS]
          by_cases h1 : y < x
          · rw [if_pos h1, if_pos h1]; rfl
          · rw [if_neg h1, if_neg h1]
            by_cases h2 : x < y
            · rw [if_pos h2, if_pos h2]
            · rw [if_neg h1, if_neg h2] at hS; exact absurd hS.symm hS0
        clear hS hR2 hS0
        go_wp2_with (go_at_call 142; go_must ((with_reducible refine (HC.out).mono ?_); rintro v w1 ⟨rfl, rfl⟩))
        go_ret
        exact ⟨by rw [HRS.out]; rfl, rfl⟩
    · obtain rfl : k = n := by omega
      have hR2 := hRk.out
      rw [List.drop_eq_nil_of_le (by rw [← HN.out]; exact Nat.le_refl _)] at hR2
      have hR3 : R = 0 := by rw [← hR2, ordR]; rfl; intros; simp_all
      subst hR3
      clear hR2
      go_wp2
      go_ret
      exact ⟨rfl, rfl⟩
end Go.Proofs.YtcamcnahkdiefaaGreat

/- Check of both sides. -/
namespace Go.Proofs.YtcamcnahkdiefaaGreat
set_option linter.unusedVariables false
set_option linter.unusedSimpArgs false
open Go.RowKit
theorem quietS {P : Program} {f : FuncId} {args : Array Value} {w w1 : World} {n : Nat} {v : Value}
    (h : Calls P f args w1 fun e w' => e = .returned v ∧ w1 = w') (e1 : w1 = w.drewN n) : Calls P f args w1 fun e w'' => e = .returned v ∧ ∃ m, w'' = w.drewN m :=
  h.mono fun _ _ ⟨he, hm⟩ => ⟨he, n, by rw [← hm, e1]⟩
theorem quietSA {P : Program} {f : FuncId} {args : Array Value} {w w1 : World} {a n : Nat} {v : Value}
    (h : Calls P f args w1 fun e w' => e = .returned v ∧ w1 = w') (e1 : w1 = w.drewN (a + n)) : Calls P f args w1 fun e w'' => e = .returned v ∧ ∃ m, w'' = w.drewN (a + m) :=
  h.mono fun _ _ ⟨he, hm⟩ => ⟨he, n, by rw [← hm, e1]⟩
theorem quietN {P : Program} {f : FuncId} {args : Array Value} {w : World} {n : Nat} {v : Value}
    (h : Calls P f args (w.drewN n) fun e w' => e = .returned v ∧ ∃ m, w' = (w.drewN n).drewN m) : Calls P f args (w.drewN n) fun e w'' => e = .returned v ∧ ∃ m, w'' = w.drewN m :=
  h.mono fun _ _ ⟨he, m, hm⟩ => ⟨he, n + m, by rw [hm, World.drewN_drewN]⟩
def okPrev : Option (List Int) → List Int → Bool
  | none, _ => true
  | some e, f => decide (ordR e f < 0)
def chkT (vars : Int) : Option (List Int) → List Tm → Bool
  | _, [] => true
  | pr, t :: l => (t.1 != 0) && rightT vars t.2 && okPrev pr t.2 && chkT vars (some t.2) l
def prevT (ts : List Tm) (k : Nat) : Option (List Int) := if k = 0 then none else (ts[k - 1]?).map (·.2)
def checkP (vars : Int) (ts : List Tm) : Bool := decide (0 ≤ vars) && decide (vars ≤ 64) && decide (ts.length ≤ 4096) && chkT vars none ts
theorem prevT_succ {ts : List Tm} {k : Nat} {t : Tm} (h : ts[k]? = some t) : prevT ts (k + 1) = some t.2 := by
  unfold prevT; rw [if_neg (by omega), Nat.add_sub_cancel, h]; rfl
theorem chkT_canon {vars : Int} {n : Nat} (hn : (n : Int) = vars) : ∀ (pr : Option (List Int)) (l : List Tm), (∀ e, pr = some e → e.length = n) → chkT vars pr l = true → Canon n l ∧ (∀ t ∈ l, rightT vars t.2 = true) ∧ (∀ e, pr = some e → ∀ t ∈ l, ordR e t.2 < 0)
  | pr, [], _, _ => ⟨⟨List.Pairwise.nil, fun t ht => by simp at ht, fun t ht => by simp at ht⟩, fun t ht => by simp at ht, fun e _ t ht => by simp at ht⟩
  | pr, t :: l, hp, h => by
    rw [chkT] at h
    simp only [Bool.and_eq_true] at h
    obtain ⟨⟨⟨h1, h2⟩, h3⟩, h4⟩ := h
    have hl : t.2.length = n := by have := rightT_len h2; omega
    obtain ⟨c, r, o⟩ := chkT_canon hn (some t.2) l (fun e he => by injection he with he; rw [← he]; exact hl) h4
    have ho := o t.2 rfl
    refine ⟨⟨List.pairwise_cons.2 ⟨ho, c.srt⟩, ?_, ?_⟩, ?_, ?_⟩
    · intro s hs; rcases List.mem_cons.1 hs with rfl | hs
      · simpa using h1
      · exact c.nz s hs
    · intro s hs; rcases List.mem_cons.1 hs with rfl | hs
      · exact hl
      · exact c.len s hs
    · intro s hs; rcases List.mem_cons.1 hs with rfl | hs
      · exact h2
      · exact r s hs
    · intro e he s hs
      subst he
      have h5 : ordR e t.2 < 0 := by simpa [okPrev] using h3
      rcases List.mem_cons.1 hs with rfl | hs
      · exact h5
      · exact ordR_trans (by rw [hp e rfl, hl]) (by rw [hl, c.len s hs]) h5 (ho s hs)
structure OkP (vars : Int) (n : Nat) (ts : List Tm) : Prop where
  v : (n : Int) = vars
  n64 : n ≤ 64
  len : ts.length ≤ 4096
  can : Canon n ts
  rt : ∀ t ∈ ts, rightT vars t.2 = true
theorem checkP_ok {vars : Int} {ts : List Tm} (h : checkP vars ts = true) : OkP vars vars.toNat ts := by
  unfold checkP at h
  simp only [Bool.and_eq_true, decide_eq_true_eq] at h
  obtain ⟨⟨⟨h1, h2⟩, h3⟩, h4⟩ := h
  obtain ⟨c, r, _⟩ := chkT_canon (vars := vars) (n := vars.toNat) (by omega) none ts (fun e he => by cases he) h4
  exact ⟨by omega, by omega, h3, c, r⟩
set_option maxRecDepth 100000 in
set_option maxHeartbeats 3200000 in
theorem RCheck_calls (vars : Int) (a : Option Addr) (n c : Nat) (ts : List Tm) (hn : n = ts.length) (w : World) (h : AtT w a ts) (hl : n ≤ 1000000) (hll : ∀ t ∈ ts, t.2.length ≤ 1000000) (B : Bool) (hB : checkP vars ts = B) :
    Calls Tryz.prog 50 #[.agg #[.int .i64 vars, .slice a n c]] w fun v w' => v = .returned (.bool B) ∧ Below w.heap.size w w' := by
  have hb0 := below_box w (.cells #[.int .i64 vars, .slice a n c] 42)
  have hX := Blk.new w 42 #[.int .i64 vars, .slice a n c]
  unfold checkP at hB
  rw [← hn] at hB
  by_cases hbad : vars < 0 ∨ 64 < vars ∨ 4096 < n
  · have hBF : B = false := by
      rw [← hB]
      rcases hbad with q | q | q
      · rw [decide_eq_false (show ¬ 0 ≤ vars by omega)]; rfl
      · rw [decide_eq_false (show ¬ vars ≤ 64 by omega), Bool.and_false]; rfl
      · rw [decide_eq_false (show ¬ n ≤ 4096 by omega), Bool.and_false]; rfl
    subst hBF
    clear hB hn
    by_cases h1 : vars < 0
    · go_enter Tryz.func50, Tryz.ntmps50
      go_wp2
      go_ret
      exact ⟨rfl, hb0⟩
    · by_cases h2 : 64 < vars
      · go_enter Tryz.func50, Tryz.ntmps50
        go_wp2
        go_ret
        exact ⟨rfl, hb0⟩
      · have h3 : (4096 : Int) < (n : Int) := by omega
        clear hbad
        go_enter Tryz.func50, Tryz.ntmps50
        go_wp2
        go_ret
        exact ⟨rfl, hb0⟩
  · have h1 : ¬ vars < 0 := by omega
    have h2 : ¬ 64 < vars := by omega
    have h3 : ¬ (4096 : Int) < (n : Int) := by omega
    rw [decide_eq_true (show 0 ≤ vars by omega), decide_eq_true (show vars ≤ 64 by omega), decide_eq_true (show n ≤ 4096 by omega)] at hB
    have HB : Hid (chkT vars (prevT ts 0) (ts.drop 0) = B) := by show _ = B; rw [← hB]; rfl
    have HN := hide hn
    have HLL := hide hll
    clear hB hn hbad hll
    obtain ⟨w0, hw0⟩ : ∃ w0, w0 = w.alloc (.cells #[.int .i64 vars, .slice a n c] 42) := ⟨_, rfl⟩
    go_enter Tryz.func50, Tryz.ntmps50
    go_wp2
    rw [← hw0] at hb0 hX ⊢
    have h' := h.belowN hb0
    have hz0 : w0.heap.size = w.heap.size + 1 := by rw [hw0]; simp
    clear hw0
    go_loopw [3] (fun i wr => ∃ k : Nat, i = .int .i64 k ∧ k ≤ n ∧ Hid (chkT vars (prevT ts k) (ts.drop k) = B) ∧ Hid (∀ e, prevT ts k = some e → (e.length : Int) = vars) ∧ Below w0.heap.size w0 wr) (fun i _ => n - (intOf i).toNat)
    case atStart => exact ⟨0, rfl, by omega, HB.out, fun e he => (by cases he), Below.refl _ _⟩
    case round =>
      obtain ⟨k, rfl, hk, hBk, hpk, hb⟩ := hrel
      have hzr := hb.size
      have hXr := hX.belowN hb
      obtain ⟨x0, x1, x2, x3⟩ := hXr.c2
      have hbw : Below w.heap.size w wr := hb0.trans (hb.mono (by omega))
      by_cases hlt : k < n
      · obtain ⟨b1, off1, t, ea, en, ec, rfl, ht, t0, t1, hen, he1, he2, hea⟩ := h'.get hb (k := k) (by rw [← HN.out]; exact hlt)
        have hB2 := hBk.out
        rw [drop_at ht.out, chkT] at hB2
        have hk0 : (0 : Int) ≤ (k : Int) := by omega
        have hk1 : (k : Int) < (n : Int) := by omega
        have hen6 : en ≤ 1000000 := by rw [hen.out]; exact HLL.out t (List.mem_of_getElem? ht.out)
        by_cases hc0 : t.1 = 0
        · have HBF : Hid (B = false) := by show B = false; rw [← hB2, hc0]; rfl
          have e1 : ((t.1.toNat : Int) == 0) = true := by rw [hc0]; rfl
          clear hB2 ht hc0
          go_wp2
          go_quiet (fail)
          go_wp2
          go_ret
          exact ⟨by rw [HBF.out]; rfl, hbw.trans (below_drawn _ _ _)⟩
        · have e1 : ((t.1.toNat : Int) == 0) = false := by
            simp only [beq_eq_false_iff_ne, ne_eq]
            intro q
            exact hc0 (UInt64.toNat_inj.1 (by simpa using q))
          have e2 : (t.1 != 0) = true := by simpa using hc0
          rw [e2, Bool.true_and] at hB2
          obtain ⟨Q, hQ⟩ : ∃ Q, rightT vars t.2 = Q := ⟨_, rfl⟩
          have HR := hide (fun (W : World) (k1 : Below wr.heap.size wr W) => RRight_calls vars ea en ec t.2 hen.out W (hea.belowN k1) hen6 Q hQ)
          rw [hQ] at hB2
          have HQ := hide hQ
          clear hc0 e2
          cases Q with
          | false =>
            have HBF : Hid (B = false) := by show B = false; rw [← hB2]; rfl
            clear hB2 ht hQ
            go_wp2
            go_quiet ((go_at_call 101; first | exact quietS (HR.out _ (below_drawn _ _ _)) rfl | exact quietSA (HR.out _ (below_drawn _ _ _)) rfl))
            go_wp2
            go_ret
            exact ⟨by rw [HBF.out]; rfl, hbw.trans (below_drawn _ _ _)⟩
          | true =>
            rw [Bool.true_and] at hB2
            have hlen := rightT_len hQ
            have HPS := hide (prevT_succ ht.out)
            rcases k with _ | j
            · rw [Nat.zero_mul, Nat.add_zero] at t0 t1
              have hB3 : chkT vars (some t.2) (ts.drop 1) = B := by rw [← hB2]; rfl
              have HB3 := hide hB3
              have HLE := hide hlen
              clear hB2 hB3 ht hQ hlen
              go_wp2
              go_quiet ((go_at_call 101; first | exact quietS (HR.out _ (below_drawn _ _ _)) rfl | exact quietSA (HR.out _ (below_drawn _ _ _)) rfl))
              go_wp2
              go_quiet (fail)
              go_wp2
              go_roundw
              case rel => exact ⟨1, by go_num, by omega, by show _ = _; rw [HPS.out]; exact HB3.out, fun e he => (by rw [HPS.out] at he; injection he with he; rw [← he]; exact HLE.out), by first | exact (hb.trans (below_drawn _ _ _)).trans (below_drawn _ _ _) | exact hb.trans (below_drawn _ _ _)⟩
              case measure => simp [intOf]; omega
            · obtain ⟨b2, off2, s, sa, sn, sc, hbs, hs, s0, s1, hsn, hs1, hs2, hsa⟩ := h'.get hb (k := j) (by rw [← HN.out]; omega)
              cases hbs
              have hP := prevT_succ hs.out
              have hls := hpk.out s.2 hP
              rw [hP] at hB2
              have hsn6 : sn ≤ 1000000 := by rw [hsn.out]; exact HLL.out s (List.mem_of_getElem? hs.out)
              obtain ⟨R, hR⟩ : ∃ R, ordR s.2 t.2 = R := ⟨_, rfl⟩
              have HO := hide (fun (W : World) (k1 : Below wr.heap.size wr W) => Order_calls sa ea sn en sc ec s.2 t.2 hsn.out hen.out (by rw [hsn.out, hen.out]; omega) W (hsa.belowN k1) (hea.belowN k1) hsn6 R hR)
              have hkk : (0 : Int) < (j : Int) + 1 := by omega
              have hj1 : (j : Int) < (n : Int) := by omega
              have hj0 : (0 : Int) ≤ (j : Int) := by omega
              by_cases hRn : R < 0
              · have hB3 : chkT vars (some t.2) (ts.drop (j + 1 + 1)) = B := by rw [← hB2]; simp [okPrev, hR, hRn]
                have HB3 := hide hB3
                have HLE := hide hlen
                have hRn2 : ¬ 0 ≤ R := by omega
                clear hB2 hB3 ht hs hQ hlen hP hls hR
                go_wp2
                go_quiet ((go_at_call 101; first | exact quietS (HR.out _ (below_drawn _ _ _)) rfl | exact quietSA (HR.out _ (below_drawn _ _ _)) rfl))
                go_wp2
                go_quiet ((go_at_call 65; first | exact quiet_add (HO.out _ (below_drawn _ _ _)) | exact quietN (HO.out _ (below_drawn _ _ _))))
                go_wp2
                go_roundw
                case rel => exact ⟨j + 1 + 1, by go_num, by omega, by show _ = _; rw [HPS.out]; exact HB3.out, fun e he => (by rw [HPS.out] at he; injection he with he; rw [← he]; exact HLE.out), by first | exact (hb.trans (below_drawn _ _ _)).trans (below_drawn _ _ _) | exact hb.trans (below_drawn _ _ _)⟩
                case measure => simp [intOf]; omega
              · have HBF : Hid (B = false) := by show B = false; rw [← hB2]; simp [okPrev, hR, hRn]
                have hRn2 : 0 ≤ R := by omega
                clear hB2 ht hs hQ hlen hP hls hR
                go_wp2
                go_quiet ((go_at_call 101; first | exact quietS (HR.out _ (below_drawn _ _ _)) rfl | exact quietSA (HR.out _ (below_drawn _ _ _)) rfl))
                go_wp2
                go_quiet ((go_at_call 65; first | exact quiet_add (HO.out _ (below_drawn _ _ _)) | exact quietN (HO.out _ (below_drawn _ _ _))))
                go_wp2
                go_ret
                exact ⟨by rw [HBF.out]; rfl, by first | exact (hbw.trans (below_drawn _ _ _)).trans (below_drawn _ _ _) | exact hbw.trans (below_drawn _ _ _)⟩
      · obtain rfl : k = n := by omega
        have hB2 := hBk.out
        rw [List.drop_eq_nil_of_le (by rw [← HN.out]; exact Nat.le_refl _), chkT] at hB2
        subst hB2
        go_wp2
        go_ret
        exact ⟨rfl, hbw⟩
set_option maxRecDepth 100000 in
set_option maxHeartbeats 3200000 in
theorem Check_calls (vars : Int) (a : Option Addr) (n c : Nat) (ts : List Tm) (hn : n = ts.length) (w : World) (h : AtT w a ts) (hl : n ≤ 1000000) (hll : ∀ t ∈ ts, t.2.length ≤ 1000000) (B : Bool) (hB : checkP vars ts = B) :
    Calls Tryz.prog 49 #[.agg #[.int .i64 vars, .slice a n c]] w fun v w' => v = .returned (.bool B) ∧ Below w.heap.size w w' := by
  have hb0 := below_box w (.cells #[.int .i64 vars, .slice a n c] 42)
  have hX := Blk.new w 42 #[.int .i64 vars, .slice a n c]
  unfold checkP at hB
  rw [← hn] at hB
  by_cases hbad : vars < 0 ∨ 64 < vars ∨ 4096 < n
  · have hBF : B = false := by
      rw [← hB]
      rcases hbad with q | q | q
      · rw [decide_eq_false (show ¬ 0 ≤ vars by omega)]; rfl
      · rw [decide_eq_false (show ¬ vars ≤ 64 by omega), Bool.and_false]; rfl
      · rw [decide_eq_false (show ¬ n ≤ 4096 by omega), Bool.and_false]; rfl
    subst hBF
    clear hB hn
    by_cases h1 : vars < 0
    · go_enter Tryz.func49, Tryz.ntmps49
      go_wp2
      go_ret
      exact ⟨rfl, hb0⟩
    · by_cases h2 : 64 < vars
      · go_enter Tryz.func49, Tryz.ntmps49
        go_wp2
        go_ret
        exact ⟨rfl, hb0⟩
      · have h3 : (4096 : Int) < (n : Int) := by omega
        clear hbad
        go_enter Tryz.func49, Tryz.ntmps49
        go_wp2
        go_ret
        exact ⟨rfl, hb0⟩
  · have h1 : ¬ vars < 0 := by omega
    have h2 : ¬ 64 < vars := by omega
    have h3 : ¬ (4096 : Int) < (n : Int) := by omega
    rw [decide_eq_true (show 0 ≤ vars by omega), decide_eq_true (show vars ≤ 64 by omega), decide_eq_true (show n ≤ 4096 by omega)] at hB
    have HB : Hid (chkT vars (prevT ts 0) (ts.drop 0) = B) := by show _ = B; rw [← hB]; rfl
    have HN := hide hn
    have HLL := hide hll
    clear hB hn hbad hll
    obtain ⟨w0, hw0⟩ : ∃ w0, w0 = w.alloc (.cells #[.int .i64 vars, .slice a n c] 42) := ⟨_, rfl⟩
    go_enter Tryz.func49, Tryz.ntmps49
    go_wp2
    rw [← hw0] at hb0 hX ⊢
    have h' := h.belowN hb0
    have hz0 : w0.heap.size = w.heap.size + 1 := by rw [hw0]; simp
    clear hw0
    go_loopw [22] (fun i wr => ∃ k : Nat, i = .int .i64 k ∧ k ≤ n ∧ Hid (chkT vars (prevT ts k) (ts.drop k) = B) ∧ Hid (∀ e, prevT ts k = some e → (e.length : Int) = vars) ∧ Below w0.heap.size w0 wr) (fun i _ => n - (intOf i).toNat)
    case atStart => exact ⟨0, rfl, by omega, HB.out, fun e he => (by cases he), Below.refl _ _⟩
    case round =>
      obtain ⟨k, rfl, hk, hBk, hpk, hb⟩ := hrel
      have hzr := hb.size
      by_cases hlt : k < n
      · obtain ⟨b1, off1, t, ea, en, ec, rfl, ht, t0, t1, hen, he1, he2, hea⟩ := h'.get hb (k := k) (by rw [← HN.out]; exact hlt)
        obtain ⟨w1, hw1⟩ : ∃ w1, w1 = wr.alloc (.cells #[.int .u64 (t.1.toNat : Int), .slice ea en ec] 92) := ⟨_, rfl⟩
        have hb1 : Below wr.heap.size wr w1 := by rw [hw1]; exact below_box _ _
        have hT : Blk w1 wr.heap.size 92 #[.int .u64 (t.1.toNat : Int), .slice ea en ec] := by rw [hw1]; exact Blk.new _ _ _
        have hB1 := hb.trans (hb1.mono hzr)
        have hbw : Below w.heap.size w w1 := hb0.trans (hB1.mono (by omega))
        have hz1 := hB1.size
        obtain ⟨x0, x1, x2, x3⟩ := (hX.belowN hB1).c2
        obtain ⟨y0, y1, y2, y3⟩ := hT.c2
        have hea1 := hea.belowN hb1
        have hB2 := hBk.out
        rw [drop_at ht.out, chkT] at hB2
        have hk0 : (0 : Int) ≤ (k : Int) := by omega
        have hk1 : (k : Int) < (n : Int) := by omega
        have hen6 : en ≤ 1000000 := by rw [hen.out]; exact HLL.out t (List.mem_of_getElem? ht.out)
        have HW1 := hide hw1
        clear hw1
        by_cases hc0 : t.1 = 0
        · have HBF : Hid (B = false) := by show B = false; rw [← hB2, hc0]; rfl
          have e1 : ((t.1.toNat : Int) == 0) = true := by rw [hc0]; rfl
          clear hB2 ht hc0
          go_wp2
          rw [← HW1.out]
          go_quiet (fail)
          go_wp2
          go_ret
          exact ⟨by rw [HBF.out]; rfl, hbw.trans (below_drawn _ _ _)⟩
        · have e1 : ((t.1.toNat : Int) == 0) = false := by
            simp only [beq_eq_false_iff_ne, ne_eq]
            intro q
            exact hc0 (UInt64.toNat_inj.1 (by simpa using q))
          have e2 : (t.1 != 0) = true := by simpa using hc0
          rw [e2, Bool.true_and] at hB2
          obtain ⟨Q, hQ⟩ : ∃ Q, rightT vars t.2 = Q := ⟨_, rfl⟩
          have HR := hide (fun (W : World) (k1 : Below w1.heap.size w1 W) => PRight_calls vars ea en ec t.2 hen.out W (hea1.belowN k1) hen6 Q hQ)
          rw [hQ] at hB2
          have HQ := hide hQ
          clear hc0 e2
          cases Q with
          | false =>
            have HBF : Hid (B = false) := by show B = false; rw [← hB2]; rfl
            clear hB2 ht hQ
            go_wp2
            rw [← HW1.out]
            go_quiet ((go_at_call 99; first | exact quietS (HR.out _ (below_drawn _ _ _)) rfl | exact quietSA (HR.out _ (below_drawn _ _ _)) rfl))
            go_wp2
            go_ret
            exact ⟨by rw [HBF.out]; rfl, hbw.trans (below_drawn _ _ _)⟩
          | true =>
            rw [Bool.true_and] at hB2
            have hlen := rightT_len hQ
            have HPS := hide (prevT_succ ht.out)
            rcases k with _ | j
            · rw [Nat.zero_mul, Nat.add_zero] at t0 t1
              have hB3 : chkT vars (some t.2) (ts.drop 1) = B := by rw [← hB2]; rfl
              have HB3 := hide hB3
              have HLE := hide hlen
              clear hB2 hB3 ht hQ hlen
              go_wp2
              rw [← HW1.out]
              go_quiet ((go_at_call 99; first | exact quietS (HR.out _ (below_drawn _ _ _)) rfl | exact quietSA (HR.out _ (below_drawn _ _ _)) rfl))
              go_wp2
              go_roundw
              case rel => exact ⟨1, by go_num, by omega, by show _ = _; rw [HPS.out]; exact HB3.out, fun e he => (by rw [HPS.out] at he; injection he with he; rw [← he]; exact HLE.out), hB1.trans (below_drawn _ _ _)⟩
              case measure => simp [intOf]; omega
            · obtain ⟨b2, off2, s, sa, sn, sc, hbs, hs, s0, s1, hsn, hs1, hs2, hsa⟩ := h'.get hB1 (k := j) (by rw [← HN.out]; omega)
              cases hbs
              have hP := prevT_succ hs.out
              have hls := hpk.out s.2 hP
              rw [hP] at hB2
              have hsn6 : sn ≤ 1000000 := by rw [hsn.out]; exact HLL.out s (List.mem_of_getElem? hs.out)
              obtain ⟨R, hR⟩ : ∃ R, - ordR s.2 t.2 = R := ⟨_, rfl⟩
              have hse : sn = en := by rw [hsn.out, hen.out]; omega
              have HO := hide (fun (W : World) (k1 : Below w1.heap.size w1 W) => Compare_calls sa ea sn sc ec s.2 t.2 hsn.out (by rw [hse, hen.out]) W (hsa.belowN k1) (hea1.belowN k1) hsn6 R hR)
              subst hse
              have hkk : (0 : Int) < (j : Int) + 1 := by omega
              have hj1 : (j : Int) < (n : Int) := by omega
              have hj0 : (0 : Int) ≤ (j : Int) := by omega
              by_cases hRn : ordR s.2 t.2 < 0
              · have hB3 : chkT vars (some t.2) (ts.drop (j + 1 + 1)) = B := by rw [← hB2]; simp [okPrev, hRn]
                have HB3 := hide hB3
                have HLE := hide hlen
                have hRn2 : ¬ R ≤ 0 := by omega
                clear hB2 hB3 ht hs hQ hlen hP hls hR hRn
                go_wp2
                rw [← HW1.out]
                go_quiet (first | (go_at_call 99; first | exact quietS (HR.out _ (below_drawn _ _ _)) rfl | exact quietSA (HR.out _ (below_drawn _ _ _)) rfl) | (go_at_call 100; first | exact quietS (HO.out _ (below_drawn _ _ _)) rfl | exact quietSA (HO.out _ (below_drawn _ _ _)) rfl))
                go_wp2
                go_roundw
                case rel => exact ⟨j + 1 + 1, by go_num, by omega, by show _ = _; rw [HPS.out]; exact HB3.out, fun e he => (by rw [HPS.out] at he; injection he with he; rw [← he]; exact HLE.out), hB1.trans (below_drawn _ _ _)⟩
                case measure => simp [intOf]; omega
              · have HBF : Hid (B = false) := by show B = false; rw [← hB2]; simp [okPrev, hRn]
                have hRn2 : R ≤ 0 := by omega
                clear hB2 ht hs hQ hlen hP hls hR hRn
                go_wp2
                rw [← HW1.out]
                go_quiet (first | (go_at_call 99; first | exact quietS (HR.out _ (below_drawn _ _ _)) rfl | exact quietSA (HR.out _ (below_drawn _ _ _)) rfl) | (go_at_call 100; first | exact quietS (HO.out _ (below_drawn _ _ _)) rfl | exact quietSA (HO.out _ (below_drawn _ _ _)) rfl))
                go_wp2
                go_ret
                exact ⟨by rw [HBF.out]; rfl, hbw.trans (below_drawn _ _ _)⟩
      · obtain rfl : k = n := by omega
        have hB2 := hBk.out
        rw [List.drop_eq_nil_of_le (by rw [← HN.out]; exact Nat.le_refl _), chkT] at hB2
        subst hB2
        have hbw : Below w.heap.size w wr := hb0.trans (hb.mono (by omega))
        go_wp2
        go_ret
        exact ⟨rfl, hbw⟩
end Go.Proofs.YtcamcnahkdiefaaGreat

/- Same of both sides. -/
namespace Go.Proofs.YtcamcnahkdiefaaGreat
set_option linter.unusedVariables false
set_option linter.unusedSimpArgs false
open Go.RowKit
def sameP (v1 : Int) (a : List Tm) (v2 : Int) (b : List Tm) : Bool := decide (v1 = v2) && decide (a = b)
theorem dec_cons (t u : Tm) (l m : List Tm) : decide (t :: l = u :: m) = (decide (t = u) && decide (l = m)) := by simp
theorem tm_ne1 {t u : Tm} (h : t.1 ≠ u.1) : decide (t = u) = false := decide_eq_false fun e => h (by rw [e])
theorem tm_ne2 {t u : Tm} (h : t.2 ≠ u.2) : decide (t = u) = false := decide_eq_false fun e => h (by rw [e])
theorem u64_eqI {a b : UInt64} (h : a = b) : ((a.toNat : Int) == (b.toNat : Int)) = true := by rw [h]; simp
theorem u64_neI {a b : UInt64} (h : a ≠ b) : ((a.toNat : Int) == (b.toNat : Int)) = false := by
  simp only [beq_eq_false_iff_ne, ne_eq]
  exact fun q => h (UInt64.toNat_inj.1 (by omega))
set_option maxRecDepth 100000 in
set_option maxHeartbeats 3200000 in
theorem RSame_calls (v1 v2 : Int) (a b : Option Addr) (n m ca cb : Nat) (ts us : List Tm) (hn : n = ts.length) (hm : m = us.length) (w : World) (h : AtT w a ts) (h' : AtT w b us) (hl : n ≤ 1000000) (hll : ∀ t ∈ ts, t.2.length ≤ 1000000) (B : Bool) (hB : sameP v1 ts v2 us = B) :
    Calls Tryz.prog 31 #[.agg #[.int .i64 v1, .slice a n ca], .agg #[.int .i64 v2, .slice b m cb]] w fun v w' => v = .returned (.bool B) ∧ Below w.heap.size w w' := by
  have hb0 := (below_box w (.cells #[.int .i64 v1, .slice a n ca] 42)).alloc (by simp) (.cells #[.int .i64 v2, .slice b m cb] 42)
  have hX := (Blk.new w 42 #[.int .i64 v1, .slice a n ca]).alloc (.cells #[.int .i64 v2, .slice b m cb] 42)
  have hY := Blk.new (w.alloc (.cells #[.int .i64 v1, .slice a n ca] 42)) 42 #[.int .i64 v2, .slice b m cb]
  simp only [World.size_alloc] at hY
  unfold sameP at hB
  by_cases hv : v1 = v2
  case neg =>
    rw [decide_eq_false hv, Bool.false_and] at hB
    subst hB
    have e1 : (v1 != v2) = true := by simpa using hv
    have e2 : (v1 == v2) = false := by simpa using hv
    clear hv hn hm
    go_enter Tryz.func31, Tryz.ntmps31
    go_wp2
    go_ret
    exact ⟨rfl, hb0⟩
  case pos =>
    subst hv
    rw [decide_eq_true rfl, Bool.true_and] at hB
    have e1 : (v1 != v1) = false := by simp
    by_cases hnm : n = m
    case neg =>
      have hBF : B = false := by rw [← hB]; exact decide_eq_false fun q => hnm (by rw [hn, hm, q])
      subst hBF
      have e3 : ((n : Int) != (m : Int)) = true := by simpa using (fun q => hnm (by omega))
      have e4 : ((n : Int) == (m : Int)) = false := by simpa using (fun q => hnm (by omega))
      clear hnm hn hm hB
      go_enter Tryz.func31, Tryz.ntmps31
      go_wp2
      go_ret
      exact ⟨rfl, hb0⟩
    case pos =>
      subst hnm
      have e3 : ((n : Int) != (n : Int)) = false := by simp
      have HN := hide hn
      have HM := hide hm
      have HLL := hide hll
      have HB : Hid (decide (ts.drop 0 = us.drop 0) = B) := hB
      clear hB hn hm hll
      obtain ⟨w0, hw0⟩ : ∃ w0, w0 = (w.alloc (.cells #[.int .i64 v1, .slice a n ca] 42)).alloc (.cells #[.int .i64 v1, .slice b n cb] 42) := ⟨_, rfl⟩
      go_enter Tryz.func31, Tryz.ntmps31
      go_wp2
      rw [← hw0] at hb0 hX hY ⊢
      have hz0 : w0.heap.size = w.heap.size + 1 + 1 := by rw [hw0]; simp
      have hat := h.belowN hb0
      have hbt := h'.belowN hb0
      clear hw0
      go_loopw [5] (fun i wr => ∃ k : Nat, i = .int .i64 k ∧ k ≤ n ∧ Hid (decide (ts.drop k = us.drop k) = B) ∧ Below w0.heap.size w0 wr) (fun i _ => n - (intOf i).toNat)
      case atStart => exact ⟨0, rfl, by omega, HB.out, Below.refl _ _⟩
      case round =>
        obtain ⟨k, rfl, hk, hBk, hb⟩ := hrel
        have hzr := hb.size
        obtain ⟨p0, p1, p2, p3⟩ := (hX.belowN hb).c2
        obtain ⟨q0, q1, q2, q3⟩ := (hY.belowN hb).c2
        by_cases hlt : k < n
        · obtain ⟨b1, off1, t, ea, en, ec, rfl, ht, t0, t1, hen, he1, he2, hea⟩ := hat.get hb (k := k) (by rw [← HN.out]; exact hlt)
          obtain ⟨b2, off2, u, fa, fn, fc, rfl, hu, u0, u1, hfn, hf1, hf2, hfa⟩ := hbt.get hb (k := k) (by rw [← HM.out]; exact hlt)
          have hB2 := hBk.out
          rw [drop_at ht.out, drop_at hu.out, dec_cons] at hB2
          have hk0 : (0 : Int) ≤ (k : Int) := by omega
          have hk1 : (k : Int) < (n : Int) := by omega
          have hen6 : en ≤ 1000000 := by rw [hen.out]; exact HLL.out t (List.mem_of_getElem? ht.out)
          have hbx := (below_box wr (.cells #[.int .u64 (t.1.toNat : Int), .slice ea en ec] 92)).alloc (by simp) (.cells #[.int .u64 (u.1.toNat : Int), .slice fa fn fc] 92)
          have hB9 := hb.trans (hbx.mono hzr)
          obtain ⟨r0, r1, r2, r3⟩ := ((Blk.new wr 92 #[.int .u64 (t.1.toNat : Int), .slice ea en ec]).alloc (.cells #[.int .u64 (u.1.toNat : Int), .slice fa fn fc] 92)).c2
          have hS := Blk.new (wr.alloc (.cells #[.int .u64 (t.1.toNat : Int), .slice ea en ec] 92)) 92 #[.int .u64 (u.1.toNat : Int), .slice fa fn fc]
          simp only [World.size_alloc] at hS
          obtain ⟨s0, s1, s2, s3⟩ := hS.c2
          obtain ⟨z0, z1, z2, z3⟩ := (hX.belowN (hb.trans (hbx.mono hzr))).c2
          obtain ⟨y0, y1, y2, y3⟩ := (hY.belowN (hb.trans (hbx.mono hzr))).c2
          obtain ⟨v0, v3, v4, v5⟩ := (hY.belowN (hb.trans ((below_box wr (.cells #[.int .u64 (t.1.toNat : Int), .slice ea en ec] 92)).mono hzr))).c2
          have hu0 : (wr.alloc (.cells #[.int .u64 (t.1.toNat : Int), .slice ea en ec] 92)).cell? ⟨b2, off2 + k * 2, none⟩ = some (.int .u64 (u.1.toNat : Int)) := cell_later (below_box wr _) u0
          have hu1 : (wr.alloc (.cells #[.int .u64 (t.1.toNat : Int), .slice ea en ec] 92)).cell? ⟨b2, off2 + k * 2 + 1, none⟩ = some (.slice fa fn fc) := cell_later (below_box wr _) u1
          by_cases hc : t.1 = u.1
          case neg =>
            have hBF : Hid (B = false) := by show B = false; rw [← hB2, tm_ne1 hc]; rfl
            have e5 := u64_neI hc
            have e6 : ((t.1.toNat : Int) != (u.1.toNat : Int)) = true := by rw [bne, e5]; rfl
            clear hB2 ht hu hc
            go_wp2
            go_ret
            exact ⟨by rw [hBF.out]; rfl, hb0.trans (hB9.mono (by omega))⟩
          case pos =>
            have e5 := u64_eqI hc
            have e6 : ((t.1.toNat : Int) != (u.1.toNat : Int)) = false := by rw [bne, e5]; rfl
            by_cases hen9 : en = fn
            case neg =>
              have hBF : Hid (B = false) := by
                show B = false
                rw [← hB2, tm_ne2 (fun q => hen9 (by rw [hen.out, hfn.out, q]))]; rfl
              have e7 : ((en : Int) != (fn : Int)) = true := by simpa using (fun q => hen9 (by omega))
              have e8 : ((en : Int) == (fn : Int)) = false := by simpa using (fun q => hen9 (by omega))
              clear hB2 ht hu hc hen9
              go_wp2
              go_ret
              exact ⟨by rw [hBF.out]; rfl, hb0.trans (hB9.mono (by omega))⟩
            case pos =>
              have e7 : ((en : Int) != (fn : Int)) = false := by simp [hen9]
              have e8 : ((en : Int) == (fn : Int)) = true := by simp [hen9]
              obtain ⟨R, hR⟩ : ∃ R, ordR t.2 u.2 = R := ⟨_, rfl⟩
              have HO := hide (Order_calls ea fa en fn ec fc t.2 u.2 hen.out hfn.out hen9 _ (hea.belowN hbx) (hfa.belowN hbx) hen6 R hR)
              by_cases hR0 : R = 0
              · have htu : t = u := Prod.ext hc (ordR_eq (by rw [← hen.out, ← hfn.out, hen9]) (by rw [hR, hR0]))
                have HB3 : Hid (decide (ts.drop (k + 1) = us.drop (k + 1)) = B) := by
                  show _ = B
                  rw [← hB2, decide_eq_true htu, Bool.true_and]
                have e9 : (R != 0) = false := by simp [hR0]
                have e10 : (R == 0) = true := by simp [hR0]
                clear hB2 ht hu hc hen9 hR hR0 htu
                go_wp2_with (go_at_call 65; go_must ((with_reducible refine (HO.out).mono ?_); rintro v w5 ⟨rfl, q5, hw5⟩; have hb5 : Below _ _ w5 := hw5 ▸ below_drawn _ wr.heap.size _; clear hw5))
                go_roundw
                case rel => exact ⟨k + 1, by go_num, by omega, HB3.out, hB9.trans (hb5.mono hzr)⟩
                case measure => simp [intOf]; omega
              · have hBF : Hid (B = false) := by
                  show B = false
                  rw [← hB2, tm_ne2 (fun q => hR0 (by rw [← hR, q, ordR_self]))]; rfl
                have e9 : (R != 0) = true := by simpa using hR0
                have e10 : (R == 0) = false := by simpa using hR0
                clear hB2 ht hu hc hen9 hR hR0
                go_wp2_with (go_at_call 65; go_must ((with_reducible refine (HO.out).mono ?_); rintro v w5 ⟨rfl, q5, hw5⟩; have hb5 : Below _ _ w5 := hw5 ▸ below_drawn _ wr.heap.size _; clear hw5))
                go_ret
                exact ⟨by rw [hBF.out]; rfl, hb0.trans ((hB9.trans (hb5.mono hzr)).mono (by omega))⟩
        · obtain rfl : k = n := by omega
          have hB2 := hBk.out
          rw [List.drop_eq_nil_of_le (by rw [← HN.out]; exact Nat.le_refl _), List.drop_eq_nil_of_le (by rw [← HM.out]; exact Nat.le_refl _)] at hB2
          have hBT : Hid (B = true) := by show B = true; rw [← hB2]; rfl
          clear hB2
          go_wp2
          go_ret
          exact ⟨by rw [hBT.out]; rfl, hb0.trans (hb.mono (by omega))⟩
end Go.Proofs.YtcamcnahkdiefaaGreat

/- Powers of words. -/
namespace Go.Proofs.YtcamcnahkdiefaaGreat
set_option linter.unusedVariables false
set_option linter.unusedSimpArgs false
open Go.RowKit
end Go.Proofs.YtcamcnahkdiefaaGreat

/- Eval of both sides. -/
namespace Go.Proofs.YtcamcnahkdiefaaGreat
set_option linter.unusedVariables false
set_option linter.unusedSimpArgs false
open Go.RowKit
end Go.Proofs.YtcamcnahkdiefaaGreat

/- Terms that a call makes; ref03.copied, ref03.merged. -/
namespace Go.Proofs.YtcamcnahkdiefaaGreat
set_option linter.unusedVariables false
set_option linter.unusedSimpArgs false
open Go.RowKit
theorem tyT : Ty Tryz.prog 40 92 TmH := Ty.of (z := .agg #[.int .u64 0, .slice none 0 0]) (size := 2) (bytes := 32) Tryz.underlying40 (by kernel_rfl) rfl (by decide) rfl
theorem tyI3 : Ty Tryz.prog 90 3 Int := Ty.of (z := .int .i64 0) (size := 1) (bytes := 8) Tryz.underlying90 (by kernel_rfl) rfl (by decide) rfl
def AtTP (P : Nat → Prop) (w : World) (a : Option Addr) (ts : List Tm) : Prop := ∃ hs : List TmH, At w a hs ∧ hs.length = ts.length ∧ (∀ (i : Nat) (h : TmH) (t : Tm), hs[i]? = some h → ts[i]? = some t → TmH.of w h t) ∧ (ts ≠ [] → ∀ q, a.map (·.block) = some q → P q) ∧
  ∀ (i : Nat) (h : TmH) (t : Tm), hs[i]? = some h → ts[i]? = some t → t.2 ≠ [] → ∀ q, h.a.map (·.block) = some q → P q
theorem AtTP.at_ {P : Nat → Prop} {w : World} {a : Option Addr} {ts : List Tm} (h : AtTP P w a ts) : AtT w a ts := by
  obtain ⟨hs, h1, h2, h3, _, _⟩ := h
  exact ⟨hs, h1, h2, h3⟩
theorem AtT.any {w : World} {a : Option Addr} {ts : List Tm} (h : AtT w a ts) : AtTP (fun _ => True) w a ts := by
  obtain ⟨hs, h1, h2, h3⟩ := h
  exact ⟨hs, h1, h2, h3, fun _ _ _ => trivial, fun _ _ _ _ _ _ _ _ => trivial⟩
theorem AtTP.imp {P Q : Nat → Prop} {w : World} {a : Option Addr} {ts : List Tm} (h : AtTP P w a ts) (hi : ∀ q, P q → Q q) : AtTP Q w a ts := by
  obtain ⟨hs, h1, h2, h3, h4, h5⟩ := h
  exact ⟨hs, h1, h2, h3, fun k q e => hi q (h4 k q e), fun i y t e1 e2 k q e => hi q (h5 i y t e1 e2 k q e)⟩
theorem AtTP.belowN {P : Nat → Prop} {w w' : World} {a : Option Addr} {ts : List Tm} (h : AtTP P w a ts) (hb : Below w.heap.size w w') : AtTP P w' a ts := by
  obtain ⟨hs, h1, h2, h3, h4, h5⟩ := h
  exact ⟨hs, h1.belowN hb, h2, fun i y t e1 e2 => (h3 i y t e1 e2).belowN hb, h4, h5⟩
theorem AtTP.nil (P : Nat → Prop) (w : World) (a : Option Addr) : AtTP P w a [] := ⟨[], At.nil _ _, rfl, fun i h t e => by simp at e, fun h => absurd rfl h, fun i h t e => by simp at e⟩
theorem AtTP.take {P : Nat → Prop} {w : World} {a : Option Addr} {ts : List Tm} (h : AtTP P w a ts) (k : Nat) : AtTP P w a (ts.take k) := by
  obtain ⟨hs, h1, h2, h3, h4, h5⟩ := h
  have hx : ∀ (i : Nat) (y : TmH) (t : Tm), (hs.take k)[i]? = some y → (ts.take k)[i]? = some t → hs[i]? = some y ∧ ts[i]? = some t := by
    intro i y t e1 e2
    rw [List.getElem?_take] at e1 e2
    split at e1
    · rename_i hi; rw [if_pos hi] at e2; exact ⟨e1, e2⟩
    · cases e1
  exact ⟨hs.take k, h1.take k, by simp [h2], fun i y t e1 e2 => h3 i y t (hx i y t e1 e2).1 (hx i y t e1 e2).2, fun hne => h4 (by rintro rfl; simp at hne), fun i y t e1 e2 => h5 i y t (hx i y t e1 e2).1 (hx i y t e1 e2).2⟩
theorem AtTP.cut {P : Nat → Prop} {w : World} {a : Option Addr} {ts : List Tm} (h : AtTP P w a ts) {k c : Nat} (hc : ts.length ≤ c) : AtTP P w (cutA a k c 2) (ts.drop k) := by
  obtain ⟨hs, h1, h2, h3, h4, h5⟩ := h
  refine ⟨hs.drop k, h1.cut (by rw [h2]; exact hc), by simp [h2], fun i y t e1 e2 => ?_, fun hne q e => ?_, fun i y t e1 e2 => ?_⟩
  · rw [List.getElem?_drop] at e1 e2; exact h3 _ y t e1 e2
  · rw [cutA_block] at e; exact h4 (by rintro rfl; simp at hne) q e
  · rw [List.getElem?_drop] at e1 e2; exact h5 _ y t e1 e2
theorem AtTP.setCell {P : Nat → Prop} {w : World} {a : Option Addr} {ts : List Tm} (h : AtTP P w a ts) {g i : Nat} (u : Value) (hg : ¬ P g) : AtTP P (w.setCell ⟨g, i, none⟩ u) a ts := by
  obtain ⟨hs, h1, h2, h3, h4, h5⟩ := h
  have hgr := grown_setCell w g i u
  refine ⟨hs, h1.grown hgr (fun hne => ?_), h2, fun j y t e1 e2 => ?_, h4, h5⟩
  · have htn : ts ≠ [] := by rintro rfl; exact hne (List.eq_nil_of_length_eq_zero h2)
    obtain ⟨b, off, e, _⟩ := h1.lt hne
    refine .inl fun e' => hg (h4 htn g ?_)
    rw [← e']
  · obtain ⟨k1, k2, k3, k4, k5⟩ := h3 j y t e1 e2
    refine ⟨k1, k2, k3, k4, k5.grown hgr (fun hne => ?_)⟩
    refine .inl fun e' => hg (h5 j y t e1 e2 hne g ?_)
    rw [← e']
structure OwnT (P : Nat → Prop) (w : World) (B : Nat) (a : Option Addr) (c : Nat) (hs : List TmH) (ts : List Tm) : Prop where
  out : Own w B 92 a c hs
  len : hs.length = ts.length
  row : ∀ (i : Nat) (h : TmH) (t : Tm), hs[i]? = some h → ts[i]? = some t → TmH.of w h t
  far : ∀ (i : Nat) (h : TmH) (t : Tm), hs[i]? = some h → ts[i]? = some t → t.2 ≠ [] → h.a.map (·.block) ≠ a.map (·.block) ∧ ∀ q, h.a.map (·.block) = some q → P q
theorem OwnT.nil {P : Nat → Prop} {w : World} {B : Nat} {a : Option Addr} {c : Nat} (h : Own w B 92 a c ([] : List TmH)) : OwnT P w B a c [] [] := ⟨h, rfl, fun i h t hx => by simp at hx, fun i h t hx => by simp at hx⟩
theorem OwnT.belowN {P : Nat → Prop} {w w' : World} {B : Nat} {a : Option Addr} {c : Nat} {hs : List TmH} {ts : List Tm} (h : OwnT P w B a c hs ts) (hb : Below w.heap.size w w') : OwnT P w' B a c hs ts :=
  ⟨h.out.belowN hb, h.len, fun i y t h1 h2 => (h.row i y t h1 h2).belowN hb, h.far⟩
theorem OwnT.at_ {P : Nat → Prop} {w : World} {B : Nat} {a : Option Addr} {c : Nat} {hs : List TmH} {ts : List Tm} (h : OwnT P w B a c hs ts) : AtTP (fun q => P q ∨ B ≤ q) w a ts := ⟨hs, h.out.at_, h.len, h.row, fun _ q e => .inr (h.out.blk q e).1, fun i y t e1 e2 hne q e => .inl ((h.far i y t e1 e2 hne).2 q e)⟩
theorem OwnT.mono {P : Nat → Prop} {w : World} {B B' : Nat} {a : Option Addr} {c : Nat} {hs : List TmH} {ts : List Tm} (h : OwnT P w B a c hs ts) (hB : B' ≤ B) : OwnT P w B' a c hs ts := ⟨h.out.mono hB, h.len, h.row, h.far⟩
theorem OwnT.cap {P : Nat → Prop} {w : World} {B : Nat} {a : Option Addr} {c : Nat} {hs : List TmH} {ts : List Tm} (h : OwnT P w B a c hs ts) : ts.length ≤ c ∧ c ≤ 9223372036854775807 := by
  have := h.out.cap
  rw [h.len] at this
  exact ⟨this.1, Nat.le_trans this.2 (by decide)⟩
theorem TmH.of.grown {w w' : World} {h : TmH} {t : Tm} {row : Option Nat} (k : TmH.of w h t) (hg : w.grownBy w' row) (hr : t.2 ≠ [] → h.a.map (·.block) ≠ row) : TmH.of w' h t :=
  ⟨k.1, k.2.1, k.2.2.1, k.2.2.2.1, k.2.2.2.2.grown hg (fun hne => by
    obtain ⟨b, off, e, _⟩ := k.2.2.2.2.lt hne
    refine .inl fun e' => hr hne ?_
    rw [← e', e])⟩
theorem OwnT.push {P : Nat → Prop} {w w' : World} {B : Nat} {a a' : Option Addr} {c c' : Nat} {hs : List TmH} {ts : List Tm} {y : TmH} {t : Tm} (h : OwnT P w B a c hs ts) (own : Own w' B 92 a' c' (hs ++ [y])) (hg : w.grownBy w' (a.map (·.block)))
    (hm : a'.map (·.block) = a.map (·.block) ∨ ∃ g, a'.map (·.block) = some g ∧ w.heap.size ≤ g) (hrow : TmH.of w y t) (hfar : t.2 ≠ [] → y.a.map (·.block) ≠ a.map (·.block) ∧ ∀ q, y.a.map (·.block) = some q → P q) : OwnT P w' B a' c' (hs ++ [y]) (ts ++ [t]) := by
  have hlt : ∀ (z : TmH) (s : Tm), TmH.of w z s → s.2 ≠ [] → ∃ q, z.a.map (·.block) = some q ∧ q < w.heap.size := by
    intro z s hz hne
    obtain ⟨b, off, e, hb⟩ := hz.2.2.2.2.lt hne
    exact ⟨b, by rw [e]; rfl, hb⟩
  have h1 : ∀ (i : Nat) (z : TmH) (s : Tm), (hs ++ [y])[i]? = some z → (ts ++ [t])[i]? = some s → TmH.of w z s ∧ (s.2 ≠ [] → z.a.map (·.block) ≠ a.map (·.block) ∧ ∀ q, z.a.map (·.block) = some q → P q) := by
    intro i z s hz hs'
    by_cases hi : i < hs.length
    · rw [List.getElem?_append_left hi] at hz
      rw [List.getElem?_append_left (by rw [← h.len]; exact hi)] at hs'
      exact ⟨h.row i z s hz hs', h.far i z s hz hs'⟩
    · have hi' : i = hs.length := by
        have := (List.getElem?_eq_some_iff.1 hz).1
        simp at this
        omega
      subst hi'
      rw [List.getElem?_append_right (Nat.le_refl _), Nat.sub_self] at hz
      rw [h.len, List.getElem?_append_right (Nat.le_refl _), Nat.sub_self] at hs'
      simp at hz hs'
      subst hz hs'
      exact ⟨hrow, hfar⟩
  refine ⟨own, by simp [h.len], fun i z s hz hs' => ?_, fun i z s hz hs' hne => ?_⟩
  · obtain ⟨k1, k2⟩ := h1 i z s hz hs'
    exact k1.grown hg (fun hne => (k2 hne).1)
  · obtain ⟨k1, k2⟩ := h1 i z s hz hs'
    refine ⟨?_, (k2 hne).2⟩
    rcases hm with e | ⟨g, e, hg'⟩
    · rw [e]; exact (k2 hne).1
    · obtain ⟨q, e1, e2⟩ := hlt z s k1 hne
      rw [e, e1]
      intro e3; injection e3 with e3; omega
theorem AtTP.getF {P : Nat → Prop} {w wr : World} {a : Option Addr} {ts : List Tm} (h : AtTP P w a ts) (hb : Below w.heap.size w wr) {k : Nat} (hk : k < ts.length) :
    ∃ (b off : Nat) (t : Tm) (ea : Option Addr) (en ec : Nat), a = some ⟨b, off, none⟩ ∧ Hid (ts[k]? = some t) ∧ wr.cell? ⟨b, off + k * 2, none⟩ = some (.int .u64 (t.1.toNat : Int)) ∧ wr.cell? ⟨b, off + k * 2 + 1, none⟩ = some (.slice ea en ec) ∧ Hid (TmH.of wr ⟨t.1, ea, en, ec⟩ t) ∧ Hid (t.2 ≠ [] → ∃ q, ea.map (·.block) = some q ∧ q < w.heap.size ∧ P q) := by
  obtain ⟨hs, h1, h2, h3, _, h5⟩ := h
  obtain ⟨b, off, y, e, hy, hc⟩ := h1.get (k := k) (by omega)
  have ht : ts[k]? = some ts[k] := List.getElem?_eq_getElem hk
  have hq := h3 k y _ hy.out ht
  have c0 := hc 0 _ rfl
  have c1 := hc 1 _ rfl
  refine ⟨b, off, ts[k], y.a, y.n, y.k, e, hide ht, cell_later hb ?_, cell_later hb ?_, hide ?_, hide fun hne => ?_⟩
  · rw [← hq.1]; simpa [Flat.n] using c0
  · simpa [Flat.n] using c1
  · have := hq.belowN hb; exact ⟨rfl, this.2⟩
  · obtain ⟨b', off', e', hb'⟩ := hq.2.2.2.2.lt hne
    exact ⟨b', by rw [e']; rfl, hb', h5 k y _ hy.out ht hne b' (by rw [e']; rfl)⟩
theorem merge_nil (a : List Tm) : mergeT a [] = nzT a := by cases a <;> simp [mergeT]
theorem merge_nil' (b : List Tm) : mergeT [] b = nzT b := by simp [mergeT]
theorem merge_l {x : Tm} {a b : List Tm} (h : b = [] ∨ ∃ y b', b = y :: b' ∧ ordR x.2 y.2 < 0) : mergeT (x :: a) b = nzT [x] ++ mergeT a b := by
  rcases h with rfl | ⟨y, b', rfl, h⟩
  · rw [merge_nil, merge_nil, nzT_cons]
  · rw [mergeT, if_pos h]
theorem merge_r {y : Tm} {a b : List Tm} (h : a = [] ∨ ∃ x a', a = x :: a' ∧ 0 < ordR x.2 y.2) : mergeT a (y :: b) = nzT [y] ++ mergeT a b := by
  rcases h with rfl | ⟨x, a', rfl, h⟩
  · rw [merge_nil', merge_nil', nzT_cons]
  · rw [mergeT, if_neg (by omega), if_pos h]
theorem merge_b {x y : Tm} {a b : List Tm} (h : ordR x.2 y.2 = 0) : mergeT (x :: a) (y :: b) = nzT [(x.1 + y.1, x.2)] ++ mergeT a b := by
  rw [mergeT, if_neg (by omega), if_neg (by omega)]
theorem merge_len (a b : List Tm) : (mergeT a b).length ≤ a.length + b.length := by
  have hz : ∀ l : List Tm, (nzT l).length ≤ l.length := fun l => List.length_filter_le _ _
  fun_induction mergeT a b with
  | case1 b => have := hz b; simp; omega
  | case2 x a => have := hz (x :: a); simp only [List.length_cons, List.length_nil] at *; omega
  | case3 x a y b h ih => have := hz [x]; simp only [List.length_append, List.length_cons, List.length_nil] at *; omega
  | case4 x a y b h1 h2 ih => have := hz [y]; simp only [List.length_append, List.length_cons, List.length_nil] at *; omega
  | case5 x a y b h1 h2 ih => have := hz [(x.1 + y.1, x.2)]; simp only [List.length_append, List.length_cons, List.length_nil] at *; omega
set_option maxHeartbeats 1600000 in
theorem Copied_calls (a : Option Addr) (n c : Nat) (e : List Int) (hn : n = e.length) (w : World) (h : At w a e) (hl : n ≤ 1000000) :
    Calls Tryz.prog 93 #[.slice a n c] w fun v w' => ∃ a' c', v = .returned (.slice a' n c') ∧ Own w' w.heap.size 3 a' c' e ∧ Below w.heap.size w w' := by
  have HN := hide hn
  have hO := Own.new w (Nat.le_refl _) 3 Int
  have hb0 := below_box w (.cells #[] 3)
  clear hn
  go_enter Tryz.func93, Tryz.ntmps93
  go_wp2
  go_loopw [3, 4] (fun ov iv wr => ∃ (k : Nat) (ao : Option Addr) (co : Nat), iv = .int .i64 k ∧ k ≤ n ∧ ov = .slice ao k co ∧ Own wr w.heap.size 3 ao co (e.take k) ∧ Below w.heap.size w wr) (fun _ iv _ => n - (intOf iv).toNat)
  case atStart => exact ⟨0, _, _, rfl, by omega, rfl, hO, hb0⟩
  case round =>
    obtain ⟨k, ao, co, rfl, hk, rfl, hown, hb⟩ := hrel
    have hzr := hb.size
    by_cases hlt : k < n
    · obtain ⟨b1, off1, x, rfl, hx, x0⟩ := h.getI hb (k := k) (by rw [← HN.out]; exact hlt)
      have hk0 : (0 : Int) ≤ (k : Int) := by omega
      have hk1 : (k : Int) < (n : Int) := by omega
      have HS := hide (show e.take (k + 1) = e.take k ++ [x] by rw [List.take_add_one, hx.out]; rfl)
      have HL := hide (show k = (e.take k).length by rw [List.length_take, ← HN.out]; omega)
      clear hx
      go_wp2_with (at_builtin; go_must (refine wpList_push tyI3 hown x rfl rfl rfl rfl rfl rfl HL.out hzr (by omega) ?_; intro a3 c3 w3 hown3 hg3 _))
      go_roundw
      case rel => exact ⟨k + 1, a3, c3, by go_num, by omega, rfl, by rw [HS.out]; exact hown3, below_push hb hown hg3 hzr⟩
      case measure => simp [intOf]; omega
    · obtain rfl : k = n := by omega
      have hE : e.take k = e := by rw [HN.out]; exact List.take_length
      rw [hE] at hown
      clear hE
      go_wp2
      go_ret
      exact ⟨ao, co, rfl, hown, hb⟩
end Go.Proofs.YtcamcnahkdiefaaGreat

/- ref03.merged, sorted, Make. -/
namespace Go.Proofs.YtcamcnahkdiefaaGreat
set_option linter.unusedVariables false
set_option linter.unusedSimpArgs false
open Go.RowKit
theorem take_succ_drop {α : Type} {l : List α} {k : Nat} (h : ¬ k < l.length) : l.drop k = [] := List.drop_eq_nil_of_le (by omega)
theorem merge_goes {M out rest : List Tm} {t : Tm} (h : out ++ (nzT [t] ++ rest) = M) : (t.1 = 0 → out ++ rest = M) ∧ (t.1 ≠ 0 → (out ++ [t]) ++ rest = M) := by
  refine ⟨fun h0 => ?_, fun h0 => ?_⟩
  · rw [nz_one, if_pos h0] at h; exact h
  · rw [nz_one, if_neg h0] at h; rw [← h, List.append_assoc]
set_option maxRecDepth 100000 in
set_option maxHeartbeats 12800000 in
theorem Merged_calls (P : Nat → Prop) (nv : Nat) (a b : Option Addr) (n m ca cb : Nat) (A B : List Tm) (hn : n = A.length) (hm : m = B.length) (w : World) (h : AtTP P w a A) (h' : AtTP P w b B) (hl : n ≤ 100000000) (hl' : m ≤ 100000000) (hA : LenT nv A) (hB : LenT nv B) (hnv : nv ≤ 1000000) (M : List Tm) (hM : mergeT A B = M) :
    Calls Tryz.prog 163 #[.slice a n ca, .slice b m cb] w fun v w' => ∃ a' n' c', v = .returned (.slice a' n' c') ∧ n' = M.length ∧ n' ≤ c' ∧ c' ≤ 9223372036854775807 ∧ AtTP (fun q => P q ∨ w.heap.size ≤ q) w' a' M ∧ Below w.heap.size w w' := by
  have HN := hide hn
  have HM := hide hm
  have HA := hide hA
  have HB := hide hB
  have HMM : Hid ([] ++ mergeT (A.drop 0) (B.drop 0) = M) := by show _ = M; rw [← hM]; rfl
  have hO := Own.new w (Nat.le_refl _) 92 TmH
  have hb0 := below_box w (.cells #[] 92)
  have hnil : ∀ b' : Option Addr, OwnT P (w.alloc (.cells #[] 92)) w.heap.size (some ⟨w.heap.size, 0, none⟩) 0 [] [] := fun _ => OwnT.nil hO
  clear hn hm hA hB hM
  go_enter Tryz.func163, Tryz.ntmps163
  go_wp2
  go_loopw [5, 6, 7] (fun ov iv kv wr => ∃ (i k o : Nat) (ao : Option Addr) (co : Nat) (hs : List TmH) (out : List Tm), iv = .int .i64 i ∧ i ≤ n ∧ kv = .int .i64 k ∧ k ≤ m ∧ ov = .slice ao o co ∧ o ≤ i + k ∧ Hid (o = out.length) ∧ OwnT P wr w.heap.size ao co hs out ∧ Hid (out ++ mergeT (A.drop i) (B.drop k) = M) ∧ Below w.heap.size w wr) (fun _ iv kv _ => (n - (intOf iv).toNat) + (m - (intOf kv).toNat))
  case atStart => exact ⟨0, 0, 0, _, _, [], [], rfl, by omega, rfl, by omega, rfl, by omega, by show _ = _; rfl, hnil none, HMM.out, hb0⟩
  case round =>
    obtain ⟨i, k, o, ao, co, hs, out, rfl, hi, rfl, hk, rfl, ho, hol, hown, hMr, hb⟩ := hrel
    have hzr := hb.size
    have hi0 : (0 : Int) ≤ (i : Int) := by omega
    have hk0 : (0 : Int) ≤ (k : Int) := by omega
    have hblk := hown.out.blk
    have HOL := hide (show o = hs.length by rw [hown.len]; exact hol.out)
    by_cases hlt : i < n
    · have hi1 : (i : Int) < (n : Int) := by omega
      have hin : ((i : Int) == (n : Int)) = false := by simpa using (show ¬ (i : Int) = (n : Int) by omega)
      obtain ⟨b1, off1, x, ea, en, ec, rfl, hx, x0, x1, hrowX, hfarX⟩ := h.getF hb (k := i) (by rw [← HN.out]; exact hlt)
      have hdA := drop_at hx.out
      have hlx := HA.out x (List.mem_of_getElem? hx.out)
      by_cases hlt2 : k < m
      · have hk1 : (k : Int) < (m : Int) := by omega
        have hkm : ((k : Int) == (m : Int)) = false := by simpa using (show ¬ (k : Int) = (m : Int) by omega)
        obtain ⟨b2, off2, y, fa, fn, fc, rfl, hy, y0, y1, hrowY, hfarY⟩ := h'.getF hb (k := k) (by rw [← HM.out]; exact hlt2)
        have hdB := drop_at hy.out
        have hly := HB.out y (List.mem_of_getElem? hy.out)
        obtain ⟨R, hR⟩ : ∃ R, ordR x.2 y.2 = R := ⟨_, rfl⟩
        have hlen1 : en = nv := hrowX.out.2.1.trans hlx
        have hlen2 : fn = nv := hrowY.out.2.1.trans hly
        have HO := hide (fun (W : World) (k1 : Below wr.heap.size wr W) => Order_calls ea fa en fn ec fc x.2 y.2 hrowX.out.2.1 hrowY.out.2.1 (by omega) W (hrowX.out.2.2.2.2.belowN k1) (hrowY.out.2.2.2.2.belowN k1) (by omega) R hR)
        have hMr2 := hMr.out
        clear hlen1 hlen2
        rcases ordR_val x.2 y.2 with hc | hc | hc
        · rw [hR] at hc
          subst hc
          rw [show mergeT (A.drop i) (B.drop k) = nzT [x] ++ mergeT (A.drop (i + 1)) (B.drop k) by rw [hdA]; exact merge_l (.inr ⟨y, _, hdB, by rw [hR]; decide⟩)] at hMr2
          have HG := hide (merge_goes hMr2)
          clear hMr2 hdA hdB hR hx hlx hy hly
          go_wp2
          go_quiet ((go_at_call 65; first | exact quiet_add (HO.out _ (below_drawn _ _ _)) | exact quietN (HO.out _ (below_drawn _ _ _))))
          obtain ⟨wq, hwq⟩ : ∃ wq, wq = wr.drewN nq := ⟨_, rfl⟩
          rw [← hwq]
          have hbq : Below wr.heap.size wr wq := by rw [hwq]; exact below_drawn _ _ _
          clear hwq
          have hbW := hb.trans (hbq.mono hzr)
          have hownW := hown.belowN hbq
          have z0 := cell_later (hbq.trans ((below_box wq (.cells #[.int .u64 0, .slice none 0 0] 92)).mono hbq.size)) x0
          have z1 := cell_later (hbq.trans ((below_box wq (.cells #[.int .u64 0, .slice none 0 0] 92)).mono hbq.size)) x1
          obtain ⟨t, rfl⟩ : ∃ t, t = x := ⟨x, rfl⟩
          have hrowW := hide (hrowX.out.belowN hbq)
          have HFAR : Hid (t.2 ≠ [] → ea.map (·.block) ≠ ao.map (·.block) ∧ ∀ q, ea.map (·.block) = some q → P q) := hide fun hne => by
            obtain ⟨q, e1, e2, e3⟩ := hfarX.out hne
            refine ⟨fun e => ?_, fun q' e' => ?_⟩
            · have := (hblk q (by rw [← e, e1])).1
              omega
            · rw [e1] at e'; injection e' with e'; rw [← e']; exact e3
          have hbx := below_box wq (.cells #[.int .u64 (t.1.toNat : Int), .slice ea en ec] 92)
          have hT := Blk.new wq 92 #[.int .u64 (t.1.toNat : Int), .slice ea en ec]
          have hBx := hbW.trans (hbx.mono hbW.size)
          have hzx := hBx.size
          have hownx := hownW.belowN hbx
          have hrowx := hrowW.out.belowN hbx
          obtain ⟨r0, r1, r2, r3⟩ := hT.c2
          by_cases hc0 : t.1 = 0
          · have e1 : ((t.1.toNat : Int) != 0) = false := by rw [hc0]; rfl
            have e2 : ((t.1.toNat : Int) == 0) = true := by rw [hc0]; rfl
            have HG2 := hide (HG.out.1 hc0)
            clear hc0
            go_wp2
            go_roundw
            case rel => exact ⟨i + 1, k, o, ao, co, hs, out, by go_num, by omega, by go_num, by omega, rfl, by omega, hol.out, hownx, HG2.out, hBx⟩
            case measure => simp [intOf]; omega
          · have e1 : ((t.1.toNat : Int) != 0) = true := by
              simp only [bne_iff_ne, ne_eq]
              exact fun q => hc0 (UInt64.toNat_inj.1 (by simpa using q))
            have e2 : ((t.1.toNat : Int) == 0) = false := by
              simp only [beq_eq_false_iff_ne, ne_eq]
              exact fun q => hc0 (UInt64.toNat_inj.1 (by simpa using q))
            have HG2 := hide (HG.out.2 hc0)
            clear hc0
            go_wp2_with (at_builtin; go_must (refine wpList_push tyT hownx.out ⟨t.1, ea, en, ec⟩ rfl rfl rfl rfl rfl (by simp) HOL.out hzx (by omega) ?_; intro a3 c3 w3 hown3 hg3 hcs3; have hOT := hownx.push hown3 hg3 hcs3 hrowx HFAR.out; have hB3 := below_push hBx hownx.out hg3 hzx))
            go_roundw
            case rel => exact ⟨i + 1, k, o + 1, a3, c3, _, out ++ [t], by go_num, by omega, by go_num, by omega, rfl, by omega, by show _ = _; rw [List.length_append, ← hol.out]; rfl, hOT, HG2.out, hB3⟩
            case measure => simp [intOf]; omega
        · rw [hR] at hc
          subst hc
          rw [show mergeT (A.drop i) (B.drop k) = nzT [(x.1 + y.1, x.2)] ++ mergeT (A.drop (i + 1)) (B.drop (k + 1)) by rw [hdA, hdB]; exact merge_b hR] at hMr2
          have HG := hide (merge_goes hMr2)
          clear hMr2 hdA hdB hR hx hlx hy hly
          go_wp2
          go_quiet ((go_at_call 65; first | exact quiet_add (HO.out _ (below_drawn _ _ _)) | exact quietN (HO.out _ (below_drawn _ _ _))))
          obtain ⟨wq, hwq⟩ : ∃ wq, wq = wr.drewN nq := ⟨_, rfl⟩
          rw [← hwq]
          have hbq : Below wr.heap.size wr wq := by rw [hwq]; exact below_drawn _ _ _
          clear hwq
          have hbW := hb.trans (hbq.mono hzr)
          have hownW := hown.belowN hbq
          have hbz := hbq.trans ((below_box wq (.cells #[.int .u64 0, .slice none 0 0] 92)).mono hbq.size)
          have z0 := cell_later hbz x0
          have z1 := cell_later hbz x1
          have v0 := cell_later hbz y0
          have v1 := cell_later hbz y1
          have hGz := Blk.new wq 92 #[.int .u64 0, .slice none 0 0]
          have HP := hide (fun W => Plus_calls x.1 y.1 W)
          obtain ⟨T, hT⟩ : ∃ T, x.1 + y.1 = T := ⟨_, rfl⟩
          rw [hT] at HP HG
          obtain ⟨wz, hwz⟩ : ∃ wz, wz = wq.alloc (.cells #[.int .u64 0, .slice none 0 0] 92) := ⟨_, rfl⟩
          have HZ := hide hwz
          rw [← hwz] at hbz hGz z0 z1 v0 v1
          have hbwz : Below wq.heap.size wq wz := by rw [hwz]; exact below_box _ _
          have hB0 := Below.drew (Below.refl wz.heap.size wz)
          have hb1lt := World.block_lt_of_cell? _ _ x0
          have hb2lt := World.block_lt_of_cell? _ _ y0
          have hgb1 : wq.heap.size ≠ b1 := by have := hbq.size; simp at hb1lt; omega
          have hgb2 : wq.heap.size ≠ b2 := by have := hbq.size; simp at hb2lt; omega
          clear hwz hT hb1lt hb2lt
          go_wp2
          rw [← HZ.out]
          go_region_held3 (fun w' => w'.cell? ⟨b1, off1 + i * 2, none⟩ = some (.int .u64 (x.1.toNat : Int)) ∧ w'.cell? ⟨b1, off1 + i * 2 + 1, none⟩ = some (.slice ea en ec) ∧ w'.cell? ⟨b2, off2 + k * 2, none⟩ = some (.int .u64 (y.1.toNat : Int))) (go_keep)
            ((go_at_call 167; go_must ((with_reducible refine (HP.out _).mono ?_); rintro v w5 ⟨rfl, hb5⟩; have hB5 := hB0.trans (hb5.mono hB0.size); have o0 := cell_later hB5 z0; have o1 := cell_later hB5 z1; have o2 := cell_later hB5 v0; obtain ⟨s0, s1, s2, s3⟩ := (hGz.belowN hB5).c2)))
          obtain ⟨wX, hwX⟩ : ∃ wX, wX = (w5.setCell ⟨wq.heap.size, 0, none⟩ (.int .u64 (T.toNat : Int))).setCell ⟨wq.heap.size, 1, none⟩ (.slice ea en ec) := ⟨_, rfl⟩
          rw [← hwX]
          obtain ⟨t, e1, e2⟩ : ∃ t : Tm, T = t.1 ∧ t.2 = x.2 := ⟨(T, x.2), rfl, rfl⟩
          have e3 : (T, x.2) = t := Prod.ext e1 e2.symm
          rw [e3] at HG
          clear e3
          subst e1
          have hbx : Below wq.heap.size wq wX := by rw [hwX]; exact ((hbwz.trans (hB5.mono hbwz.size)).setCell (p := ⟨wq.heap.size, 0, none⟩) (Nat.le_refl _) _).setCell (p := ⟨wq.heap.size, 1, none⟩) (Nat.le_refl _) _
          have hT : Blk wX wq.heap.size 92 #[.int .u64 (t.1.toNat : Int), .slice ea en ec] := by rw [hwX]; exact ((hGz.belowN hB5).set_ 0 (.int .u64 (t.1.toNat : Int))).set_ 1 (.slice ea en ec)
          have hrx := hrowX.out.belowN hbq
          have hrowW : Hid (TmH.of wq ⟨t.1, ea, en, ec⟩ t) := hide ⟨rfl, by rw [e2]; exact hrx.2.1, hrx.2.2.1, hrx.2.2.2.1, by rw [e2]; exact hrx.2.2.2.2⟩
          have HFAR : Hid (t.2 ≠ [] → ea.map (·.block) ≠ ao.map (·.block) ∧ ∀ q, ea.map (·.block) = some q → P q) := hide fun hne => by
            obtain ⟨q, e1, e3, e4⟩ := hfarX.out (by rw [← e2]; exact hne)
            refine ⟨fun e => ?_, fun q' e' => ?_⟩
            · have := (hblk q (by rw [← e, e1])).1
              omega
            · rw [e1] at e'; injection e' with e'; rw [← e']; exact e4
          clear hwX e2 hrx
          have hBx := hbW.trans (hbx.mono hbW.size)
          have hzx := hBx.size
          have hownx := hownW.belowN hbx
          have hrowx := hrowW.out.belowN hbx
          obtain ⟨r0, r1, r2, r3⟩ := hT.c2
          by_cases hc0 : t.1 = 0
          · have e1 : ((t.1.toNat : Int) != 0) = false := by rw [hc0]; rfl
            have e2 : ((t.1.toNat : Int) == 0) = true := by rw [hc0]; rfl
            have HG2 := hide (HG.out.1 hc0)
            clear hc0
            go_wp2
            go_roundw
            case rel => exact ⟨i + 1, k + 1, o, ao, co, hs, out, by go_num, by omega, by go_num, by omega, rfl, by omega, hol.out, hownx, HG2.out, hBx⟩
            case measure => simp [intOf]; omega
          · have e1 : ((t.1.toNat : Int) != 0) = true := by
              simp only [bne_iff_ne, ne_eq]
              exact fun q => hc0 (UInt64.toNat_inj.1 (by simpa using q))
            have e2 : ((t.1.toNat : Int) == 0) = false := by
              simp only [beq_eq_false_iff_ne, ne_eq]
              exact fun q => hc0 (UInt64.toNat_inj.1 (by simpa using q))
            have HG2 := hide (HG.out.2 hc0)
            clear hc0
            go_wp2_with (at_builtin; go_must (refine wpList_push tyT hownx.out ⟨t.1, ea, en, ec⟩ rfl rfl rfl rfl rfl (by simp) HOL.out hzx (by omega) ?_; intro a3 c3 w3 hown3 hg3 hcs3; have hOT := hownx.push hown3 hg3 hcs3 hrowx HFAR.out; have hB3 := below_push hBx hownx.out hg3 hzx))
            go_roundw
            case rel => exact ⟨i + 1, k + 1, o + 1, a3, c3, _, out ++ [t], by go_num, by omega, by go_num, by omega, rfl, by omega, by show _ = _; rw [List.length_append, ← hol.out]; rfl, hOT, HG2.out, hB3⟩
            case measure => simp [intOf]; omega
        · rw [hR] at hc
          subst hc
          rw [show mergeT (A.drop i) (B.drop k) = nzT [y] ++ mergeT (A.drop i) (B.drop (k + 1)) by rw [hdB]; exact merge_r (.inr ⟨x, _, hdA, by rw [hR]; decide⟩)] at hMr2
          have HG := hide (merge_goes hMr2)
          clear hMr2 hdA hdB hR hx hlx hy hly
          go_wp2
          go_quiet ((go_at_call 65; first | exact quiet_add (HO.out _ (below_drawn _ _ _)) | exact quietN (HO.out _ (below_drawn _ _ _))))
          obtain ⟨wq, hwq⟩ : ∃ wq, wq = wr.drewN nq := ⟨_, rfl⟩
          rw [← hwq]
          have hbq : Below wr.heap.size wr wq := by rw [hwq]; exact below_drawn _ _ _
          clear hwq
          have hbW := hb.trans (hbq.mono hzr)
          have hownW := hown.belowN hbq
          have z0 := cell_later (hbq.trans ((below_box wq (.cells #[.int .u64 0, .slice none 0 0] 92)).mono hbq.size)) y0
          have z1 := cell_later (hbq.trans ((below_box wq (.cells #[.int .u64 0, .slice none 0 0] 92)).mono hbq.size)) y1
          obtain ⟨t, rfl⟩ : ∃ t, t = y := ⟨y, rfl⟩
          have hrowW := hide (hrowY.out.belowN hbq)
          have HFAR : Hid (t.2 ≠ [] → fa.map (·.block) ≠ ao.map (·.block) ∧ ∀ q, fa.map (·.block) = some q → P q) := hide fun hne => by
            obtain ⟨q, e1, e2, e3⟩ := hfarY.out hne
            refine ⟨fun e => ?_, fun q' e' => ?_⟩
            · have := (hblk q (by rw [← e, e1])).1
              omega
            · rw [e1] at e'; injection e' with e'; rw [← e']; exact e3
          have hbx := below_box wq (.cells #[.int .u64 (t.1.toNat : Int), .slice fa fn fc] 92)
          have hT := Blk.new wq 92 #[.int .u64 (t.1.toNat : Int), .slice fa fn fc]
          have hBx := hbW.trans (hbx.mono hbW.size)
          have hzx := hBx.size
          have hownx := hownW.belowN hbx
          have hrowx := hrowW.out.belowN hbx
          obtain ⟨r0, r1, r2, r3⟩ := hT.c2
          by_cases hc0 : t.1 = 0
          · have e1 : ((t.1.toNat : Int) != 0) = false := by rw [hc0]; rfl
            have e2 : ((t.1.toNat : Int) == 0) = true := by rw [hc0]; rfl
            have HG2 := hide (HG.out.1 hc0)
            clear hc0
            go_wp2
            go_roundw
            case rel => exact ⟨i, k + 1, o, ao, co, hs, out, by go_num, by omega, by go_num, by omega, rfl, by omega, hol.out, hownx, HG2.out, hBx⟩
            case measure => simp [intOf]; omega
          · have e1 : ((t.1.toNat : Int) != 0) = true := by
              simp only [bne_iff_ne, ne_eq]
              exact fun q => hc0 (UInt64.toNat_inj.1 (by simpa using q))
            have e2 : ((t.1.toNat : Int) == 0) = false := by
              simp only [beq_eq_false_iff_ne, ne_eq]
              exact fun q => hc0 (UInt64.toNat_inj.1 (by simpa using q))
            have HG2 := hide (HG.out.2 hc0)
            clear hc0
            go_wp2_with (at_builtin; go_must (refine wpList_push tyT hownx.out ⟨t.1, fa, fn, fc⟩ rfl rfl rfl rfl rfl (by simp) HOL.out hzx (by omega) ?_; intro a3 c3 w3 hown3 hg3 hcs3; have hOT := hownx.push hown3 hg3 hcs3 hrowx HFAR.out; have hB3 := below_push hBx hownx.out hg3 hzx))
            go_roundw
            case rel => exact ⟨i, k + 1, o + 1, a3, c3, _, out ++ [t], by go_num, by omega, by go_num, by omega, rfl, by omega, by show _ = _; rw [List.length_append, ← hol.out]; rfl, hOT, HG2.out, hB3⟩
            case measure => simp [intOf]; omega
      · obtain rfl : k = m := by omega
        have hkm : ((k : Int) == (k : Int)) = true := by simp
        have hkk : ¬ (k : Int) < (k : Int) := by omega
        have hMr2 := hMr.out
        have hdB : B.drop k = [] := take_succ_drop (by rw [← HM.out]; exact hlt2)
        rw [show mergeT (A.drop i) (B.drop k) = nzT [x] ++ mergeT (A.drop (i + 1)) (B.drop k) by rw [hdA]; exact merge_l (.inl hdB)] at hMr2
        have HG := hide (merge_goes hMr2)
        have z0 := cell_later (below_box wr (.cells #[.int .u64 0, .slice none 0 0] 92)) x0
        have z1 := cell_later (below_box wr (.cells #[.int .u64 0, .slice none 0 0] 92)) x1
        obtain ⟨t, rfl⟩ : ∃ t, t = x := ⟨x, rfl⟩
        have hbW := hb
        have hownW := hown
        have hrowW := hrowX
        have HFAR : Hid (t.2 ≠ [] → ea.map (·.block) ≠ ao.map (·.block) ∧ ∀ q, ea.map (·.block) = some q → P q) := hide fun hne => by
          obtain ⟨q, e1, e2, e3⟩ := hfarX.out hne
          refine ⟨fun e => ?_, fun q' e' => ?_⟩
          · have := (hblk q (by rw [← e, e1])).1
            omega
          · rw [e1] at e'; injection e' with e'; rw [← e']; exact e3
        clear hMr2 hdA hdB hx hlx
        have hbx := below_box wr (.cells #[.int .u64 (t.1.toNat : Int), .slice ea en ec] 92)
        have hT := Blk.new wr 92 #[.int .u64 (t.1.toNat : Int), .slice ea en ec]
        have hBx := hbW.trans (hbx.mono hbW.size)
        have hzx := hBx.size
        have hownx := hownW.belowN hbx
        have hrowx := hrowW.out.belowN hbx
        obtain ⟨r0, r1, r2, r3⟩ := hT.c2
        by_cases hc0 : t.1 = 0
        · have e1 : ((t.1.toNat : Int) != 0) = false := by rw [hc0]; rfl
          have e2 : ((t.1.toNat : Int) == 0) = true := by rw [hc0]; rfl
          have HG2 := hide (HG.out.1 hc0)
          clear hc0
          go_wp2
          go_roundw
          case rel => exact ⟨i + 1, k, o, ao, co, hs, out, by go_num, by omega, by go_num, by omega, rfl, by omega, hol.out, hownx, HG2.out, hBx⟩
          case measure => simp [intOf]; omega
        · have e1 : ((t.1.toNat : Int) != 0) = true := by
            simp only [bne_iff_ne, ne_eq]
            exact fun q => hc0 (UInt64.toNat_inj.1 (by simpa using q))
          have e2 : ((t.1.toNat : Int) == 0) = false := by
            simp only [beq_eq_false_iff_ne, ne_eq]
            exact fun q => hc0 (UInt64.toNat_inj.1 (by simpa using q))
          have HG2 := hide (HG.out.2 hc0)
          clear hc0
          go_wp2_with (at_builtin; go_must (refine wpList_push tyT hownx.out ⟨t.1, ea, en, ec⟩ rfl rfl rfl rfl rfl (by simp) HOL.out hzx (by omega) ?_; intro a3 c3 w3 hown3 hg3 hcs3; have hOT := hownx.push hown3 hg3 hcs3 hrowx HFAR.out; have hB3 := below_push hBx hownx.out hg3 hzx))
          go_roundw
          case rel => exact ⟨i + 1, k, o + 1, a3, c3, _, out ++ [t], by go_num, by omega, by go_num, by omega, rfl, by omega, by show _ = _; rw [List.length_append, ← hol.out]; rfl, hOT, HG2.out, hB3⟩
          case measure => simp [intOf]; omega
    · obtain rfl : i = n := by omega
      have hii : ((i : Int) == (i : Int)) = true := by simp
      have hin : ¬ (i : Int) < (i : Int) := by omega
      have hdA : A.drop i = [] := take_succ_drop (by rw [← HN.out]; exact hlt)
      by_cases hlt2 : k < m
      · have hk1 : (k : Int) < (m : Int) := by omega
        obtain ⟨b2, off2, y, fa, fn, fc, rfl, hy, y0, y1, hrowY, hfarY⟩ := h'.getF hb (k := k) (by rw [← HM.out]; exact hlt2)
        have hdB := drop_at hy.out
        have hMr2 := hMr.out
        rw [show mergeT (A.drop i) (B.drop k) = nzT [y] ++ mergeT (A.drop i) (B.drop (k + 1)) by rw [hdB]; exact merge_r (.inl hdA)] at hMr2
        have HG := hide (merge_goes hMr2)
        have z0 := cell_later (below_box wr (.cells #[.int .u64 0, .slice none 0 0] 92)) y0
        have z1 := cell_later (below_box wr (.cells #[.int .u64 0, .slice none 0 0] 92)) y1
        obtain ⟨t, rfl⟩ : ∃ t, t = y := ⟨y, rfl⟩
        have hbW := hb
        have hownW := hown
        have hrowW := hrowY
        have HFAR : Hid (t.2 ≠ [] → fa.map (·.block) ≠ ao.map (·.block) ∧ ∀ q, fa.map (·.block) = some q → P q) := hide fun hne => by
          obtain ⟨q, e1, e2, e3⟩ := hfarY.out hne
          refine ⟨fun e => ?_, fun q' e' => ?_⟩
          · have := (hblk q (by rw [← e, e1])).1
            omega
          · rw [e1] at e'; injection e' with e'; rw [← e']; exact e3
        clear hMr2 hdA hdB hy
        have hbx := below_box wr (.cells #[.int .u64 (t.1.toNat : Int), .slice fa fn fc] 92)
        have hT := Blk.new wr 92 #[.int .u64 (t.1.toNat : Int), .slice fa fn fc]
        have hBx := hbW.trans (hbx.mono hbW.size)
        have hzx := hBx.size
        have hownx := hownW.belowN hbx
        have hrowx := hrowW.out.belowN hbx
        obtain ⟨r0, r1, r2, r3⟩ := hT.c2
        by_cases hc0 : t.1 = 0
        · have e1 : ((t.1.toNat : Int) != 0) = false := by rw [hc0]; rfl
          have e2 : ((t.1.toNat : Int) == 0) = true := by rw [hc0]; rfl
          have HG2 := hide (HG.out.1 hc0)
          clear hc0
          go_wp2
          go_roundw
          case rel => exact ⟨i, k + 1, o, ao, co, hs, out, by go_num, by omega, by go_num, by omega, rfl, by omega, hol.out, hownx, HG2.out, hBx⟩
          case measure => simp [intOf]; omega
        · have e1 : ((t.1.toNat : Int) != 0) = true := by
            simp only [bne_iff_ne, ne_eq]
            exact fun q => hc0 (UInt64.toNat_inj.1 (by simpa using q))
          have e2 : ((t.1.toNat : Int) == 0) = false := by
            simp only [beq_eq_false_iff_ne, ne_eq]
            exact fun q => hc0 (UInt64.toNat_inj.1 (by simpa using q))
          have HG2 := hide (HG.out.2 hc0)
          clear hc0
          go_wp2_with (at_builtin; go_must (refine wpList_push tyT hownx.out ⟨t.1, fa, fn, fc⟩ rfl rfl rfl rfl rfl (by simp) HOL.out hzx (by omega) ?_; intro a3 c3 w3 hown3 hg3 hcs3; have hOT := hownx.push hown3 hg3 hcs3 hrowx HFAR.out; have hB3 := below_push hBx hownx.out hg3 hzx))
          go_roundw
          case rel => exact ⟨i, k + 1, o + 1, a3, c3, _, out ++ [t], by go_num, by omega, by go_num, by omega, rfl, by omega, by show _ = _; rw [List.length_append, ← hol.out]; rfl, hOT, HG2.out, hB3⟩
          case measure => simp [intOf]; omega
      · obtain rfl : k = m := by omega
        have hkk : ¬ (k : Int) < (k : Int) := by omega
        have hdB : B.drop k = [] := take_succ_drop (by rw [← HM.out]; exact hlt2)
        have hMr2 := hMr.out
        rw [hdA, hdB, merge_nil] at hMr2
        have hMo : out = M := by rw [← hMr2]; simp [nzT]
        subst hMo
        clear hMr2 hdA hdB
        have hcap := hown.cap
        go_wp2
        go_ret
        exact ⟨ao, o, co, rfl, hol.out, by rw [hol.out]; exact hcap.1, hcap.2, hown.at_, hb⟩
end Go.Proofs.YtcamcnahkdiefaaGreat

/- ref03.sorted. -/
namespace Go.Proofs.YtcamcnahkdiefaaGreat
set_option linter.unusedVariables false
set_option linter.unusedSimpArgs false
open Go.RowKit
structure TOut (P : Nat → Prop) (w : World) (a : Option Addr) (n c : Nat) (M : List Tm) : Prop where
  len : n = M.length
  cap : n ≤ c
  max : c ≤ 9223372036854775807
  at_ : AtTP P w a M
theorem TOut.belowN {P : Nat → Prop} {w w' : World} {a : Option Addr} {n c : Nat} {M : List Tm} (h : TOut P w a n c M) (hb : Below w.heap.size w w') : TOut P w' a n c M := ⟨h.len, h.cap, h.max, h.at_.belowN hb⟩
theorem TOut.imp {P Q : Nat → Prop} {w : World} {a : Option Addr} {n c : Nat} {M : List Tm} (h : TOut P w a n c M) (hi : ∀ q, P q → Q q) : TOut Q w a n c M := ⟨h.len, h.cap, h.max, h.at_.imp hi⟩
theorem TOut.setCell {P : Nat → Prop} {w : World} {a : Option Addr} {n c : Nat} {M : List Tm} (h : TOut P w a n c M) {g i : Nat} (u : Value) (hg : ¬ P g) : TOut P (w.setCell ⟨g, i, none⟩ u) a n c M := ⟨h.len, h.cap, h.max, h.at_.setCell u hg⟩
theorem TOut.nil (P : Nat → Prop) (w : World) : TOut P w none 0 0 [] := ⟨rfl, by decide, by decide, AtTP.nil _ _ _⟩
theorem OwnT.out_ {P : Nat → Prop} {w : World} {B : Nat} {a : Option Addr} {c : Nat} {hs : List TmH} {ts : List Tm} (h : OwnT P w B a c hs ts) {n : Nat} (hn : n = ts.length) : TOut (fun q => P q ∨ B ≤ q) w a n c ts := ⟨hn, by rw [hn]; exact h.cap.1, h.cap.2, h.at_⟩
theorem sort_len (l : List Tm) : (sortT l).length ≤ l.length := by
  fun_induction sortT l with
  | case1 l hl ih1 ih2 =>
    have := merge_len (sortT (l.take (l.length / 2))) (sortT (l.drop (l.length / 2)))
    rw [List.length_take] at ih1
    rw [List.length_drop] at ih2
    omega
  | case2 l hl => exact List.length_filter_le _ _
theorem sort_two {l : List Tm} (h : 1 < l.length) : sortT l = mergeT (sortT (l.take (l.length / 2))) (sortT (l.drop (l.length / 2))) := by rw [sortT, dif_pos h]
theorem sort_one {l : List Tm} (h : ¬ 1 < l.length) : sortT l = nzT l := by rw [sortT, dif_neg h]
theorem MergedT (P : Nat → Prop) (nv : Nat) (a b : Option Addr) (n m ca cb : Nat) (A B : List Tm) (w : World) (h : TOut P w a n ca A) (h' : TOut P w b m cb B) (hl : n ≤ 100000000) (hl' : m ≤ 100000000) (hA : LenT nv A) (hB : LenT nv B) (hnv : nv ≤ 1000000) (M : List Tm) (hM : mergeT A B = M) :
    Calls Tryz.prog 163 #[.slice a n ca, .slice b m cb] w fun v w' => ∃ a' n' c', v = .returned (.slice a' n' c') ∧ TOut (fun q => P q ∨ w.heap.size ≤ q) w' a' n' c' M ∧ Below w.heap.size w w' :=
  (Merged_calls P nv a b n m ca cb A B h.len h'.len w h.at_ h'.at_ hl hl' hA hB hnv M hM).mono fun v w' ⟨a', n', c', e, h1, h2, h3, h4, hb⟩ => ⟨a', n', c', e, ⟨h1, h2, h3, h4⟩, hb⟩
set_option maxRecDepth 100000 in
set_option maxHeartbeats 6400000 in
theorem RSorted_calls (nv : Nat) (hnv : nv ≤ 1000000) (n : Nat) : ∀ (P : Nat → Prop) (a : Option Addr) (c : Nat) (l : List Tm) (w : World), TOut P w a n c l → n ≤ 100000000 → LenT nv l → ∀ M, sortT l = M →
    Calls Tryz.prog 132 #[.slice a n c] w fun v w' => ∃ a' n' c', v = .returned (.slice a' n' c') ∧ TOut (fun q => w.heap.size ≤ q) w' a' n' c' M ∧ Below w.heap.size w w' := by
  induction n using Nat.strongRecOn with
  | _ n ih =>
    intro P a c l w h hl hlen M hM
    have hnl := h.len
    by_cases h1 : 1 < n
    · have hM2 := sort_two (l := l) (by omega)
      rw [hM] at hM2
      obtain ⟨q, hq⟩ : ∃ q, n / 2 = q := ⟨_, rfl⟩
      rw [← hnl, hq] at hM2
      have hT1 : TOut P w a q c (l.take q) := ⟨by rw [List.length_take]; omega, by have := h.cap; omega, h.max, h.at_.take q⟩
      have hT2 : TOut P w (cutA a q c 2) (n - q) (c - q) (l.drop q) := ⟨by rw [List.length_drop]; omega, by have := h.cap; omega, by have := h.max; omega, h.at_.cut (by rw [← hnl]; exact h.cap)⟩
      obtain ⟨A, hA⟩ : ∃ A, sortT (l.take q) = A := ⟨_, rfl⟩
      obtain ⟨B, hB⟩ : ∃ B, sortT (l.drop q) = B := ⟨_, rfl⟩
      rw [hA, hB] at hM2
      have HI1 := hide (fun (W : World) (k : Below w.heap.size w W) => ih q (by omega) P a c (l.take q) W (hT1.belowN k) (by omega) hlen.take A hA)
      have HI2 := hide (fun (W : World) (k : Below w.heap.size w W) => ih (n - q) (by omega) P (cutA a q c 2) (c - q) (l.drop q) W (hT2.belowN k) (by omega) hlen.drop B hB)
      have hlA : A.length ≤ 100000000 := by rw [← hA]; have := sort_len (l.take q); rw [List.length_take] at this; omega
      have hlB : B.length ≤ 100000000 := by rw [← hB]; have := sort_len (l.drop q); rw [List.length_drop] at this; omega
      have HMG := hide (fun (W : World) (a1 a2 : Option Addr) (n1 n2 c1 c2 : Nat) (k1 : TOut (fun q => w.heap.size ≤ q) W a1 n1 c1 A) (k2 : TOut (fun q => w.heap.size ≤ q) W a2 n2 c2 B) => MergedT _ nv a1 a2 n1 n2 c1 c2 A B W k1 k2 (by rw [k1.len]; exact hlA) (by rw [k2.len]; exact hlB) (by rw [← hA]; exact (sortT_canon _ hlen.take).len) (by rw [← hB]; exact (sortT_canon _ hlen.drop).len) hnv M hM2.symm)
      have i0 : (0 : Int) ≤ (q : Int) := by omega
      have i1 : (q : Int) ≤ (n : Int) := by omega
      have i2 : (n : Int) ≤ (c : Int) := by have := h.cap; omega
      have i3 : (q : Int) ≤ (c : Int) := by omega
      have i4 : (n : Int) / 2 = (q : Int) := by omega
      have i6 : (n : Int).tdiv 2 = (q : Int) := by rw [Int.tdiv_eq_ediv_of_nonneg (by omega)]; exact i4
      have i7 : IntKind.i64.wrap (q : Int) = (q : Int) := IntWalk.i64_in _ (by omega)
      have i5 : (1 : Int) < (n : Int) := by omega
      have hBw := Below.drew (Below.refl w.heap.size w)
      clear hM2 hA hB hlA hlB hT1 hT2 hq hnl hM ih
      go_enter Tryz.func132, Tryz.ntmps132
      go_wp2
      go_region_held3 (fun w' => w.heap.size ≤ w'.heap.size) (go_keep)
        (first
          | (go_at_call 132; (with_reducible refine (HI1.out _ hBw).mono ?_); rintro v wx ⟨a1, n1, c1, rfl, hR1', hb⟩; have hR1 := hR1'.imp (fun q hq => Nat.le_trans hBw.size hq); have hBw := hBw.trans (hb.mono hBw.size); (try have hR2 := hR2.belowN hb); have hzx := hBw.size)
          | (go_at_call 132; (with_reducible refine (HI2.out _ hBw).mono ?_); rintro v wx ⟨a2, n2, c2, rfl, hR2', hb⟩; have hR2 := hR2'.imp (fun q hq => Nat.le_trans hBw.size hq); have hBw := hBw.trans (hb.mono hBw.size); (try have hR1 := hR1.belowN hb); have hzx := hBw.size)
          | (go_at_call 163; go_must ((with_reducible refine (HMG.out _ a1 a2 n1 n2 c1 c2 hR1 hR2).mono ?_); rintro v wx ⟨a3, n3, c3, rfl, hR3, hb⟩; have HZ3 := hide hBw.size; have hBw := hBw.trans (hb.mono hBw.size); have hzx := hBw.size)))
      go_wp2
      go_ret
      exact ⟨a3, n3, c3, rfl, hR3.imp (fun q hq => hq.elim id (fun h => Nat.le_trans HZ3.out h)), hBw⟩
    · rw [sort_one (by omega)] at hM
      have i5 : ¬ (1 : Int) < (n : Int) := by omega
      have hO := Own.new w (Nat.le_refl _) 92 TmH
      have hb0 := below_box w (.cells #[] 92)
      have hON : OwnT (fun q => w.heap.size ≤ q) (w.alloc (.cells #[] 92)) w.heap.size (some ⟨w.heap.size, 0, none⟩) 0 [] [] := OwnT.nil hO
      by_cases hn1 : n = 1
      · subst hn1
        obtain ⟨b1, off1, t, ea, en, ec, rfl, ht, u0, u1, hrowU, hfar⟩ := h.at_.getF (Below.refl _ _) (k := 0) (by omega)
        rw [Nat.zero_mul, Nat.add_zero] at u0 u1
        have t0 := cell_later hb0 u0
        have t1 := cell_later hb0 u1
        have hrow := hide (hrowU.out.belowN hb0)
        have hl1 : l = [t] := by
          match l, hnl, ht.out with
          | [x], _, hx => simp at hx; rw [hx]
        rw [hl1, nz_one] at hM
        have hz := hb0.size
        clear hnl h1
        by_cases hc0 : t.1 = 0
        · rw [if_pos hc0] at hM
          have e1 : ((t.1.toNat : Int) != 0) = false := by rw [hc0]; rfl
          have e2 : ((t.1.toNat : Int) == 0) = true := by rw [hc0]; rfl
          subst hM
          clear hc0 hl1 ht
          go_enter Tryz.func132, Tryz.ntmps132
          go_wp2
          go_ret
          exact ⟨_, _, _, rfl, (hON.out_ rfl).imp (fun q hq => hq.elim id id), hb0⟩
        · rw [if_neg hc0] at hM
          have e1 : ((t.1.toNat : Int) != 0) = true := by
            simp only [bne_iff_ne, ne_eq]
            exact fun q => hc0 (UInt64.toNat_inj.1 (by simpa using q))
          have e2 : ((t.1.toNat : Int) == 0) = false := by
            simp only [beq_eq_false_iff_ne, ne_eq]
            exact fun q => hc0 (UInt64.toNat_inj.1 (by simpa using q))
          have hlt : t.2.length = nv := hlen t (by rw [hl1]; exact List.mem_singleton.2 rfl)
          have hen : en ≤ 1000000 := by have := hrow.out.2.1; have : en = t.2.length := this; omega
          have HC := hide (fun (W : World) (k : Below (w.alloc (.cells #[] 92)).heap.size (w.alloc (.cells #[] 92)) W) => Copied_calls ea en ec t.2 hrow.out.2.1 W (hrow.out.2.2.2.2.belowN k) hen)
          have HEN : Hid (en = t.2.length) := hide hrow.out.2.1
          have hBw := Below.drew (Below.refl (w.alloc (.cells #[] 92)).heap.size (w.alloc (.cells #[] 92)))
          subst hM
          clear hc0 hl1 ht hlt
          go_enter Tryz.func132, Tryz.ntmps132
          go_wp2
          go_region_held3 (fun w' => w'.cell? ⟨b1, off1, none⟩ = some (.int .u64 (t.1.toNat : Int)) ∧ w'.cell? ⟨b1, off1 + 1, none⟩ = some (.slice ea en ec)) (go_keep)
            (first
              | (go_at_call 93; go_must ((with_reducible refine (HC.out _ hBw).mono ?_); rintro v w5 ⟨a5, c5, rfl, hown5, hb5⟩; have hB5 := hBw.trans (hb5.mono hBw.size); have s0 := cell_later hB5 t0; have s1 := cell_later hB5 t1; have hO5 := hO.belowN hB5; have hz5 := hB5.size; have hBB5 := hb0.trans (hB5.mono hz)))
              | (refine step_pushAll tyT (hO5.alloc _) (l2 := [(⟨t.1, a5, en, c5⟩ : TmH)]) (At.ofBlk (Blk.new w5 _ #[.int .u64 (t.1.toNat : Int), .slice a5 en c5]) _ rfl) rfl rfl rfl rfl rfl rfl (by simp; simp at hz5; omega) (by decide) (by decide) ?_; intro a6 c6 w6 hown6 hg6 hcs6; have hb9 := hBB5.trans ((below_box w5 (.cells #[.int .u64 (t.1.toNat : Int), .slice a5 en c5] 92)).mono hBB5.size); have hB6 := below_push hb9 (hO5.alloc _) hg6 hb9.size; have s2 := cell_later hB6 u0; have s3 := cell_later hB6 u1))
          have hOT := ((hON.belowN hB5).belowN (below_box w5 (.cells #[.int .u64 (t.1.toNat : Int), .slice a5 en c5] 92))).push hown6 hg6 hcs6 (y := ⟨t.1, a5, en, c5⟩) (t := t) ⟨rfl, HEN.out, by rw [HEN.out]; exact hown5.cap.1, Nat.le_trans hown5.cap.2 (by decide), (hown5.alloc _).at_⟩ (fun hne => by
            have h9 := hBw.size
            simp at h9
            refine ⟨fun e => ?_, fun q e => ?_⟩
            · have h7 := (hown5.blk w.heap.size e).1
              have h8 := hBw.size
              rw [World.size_alloc] at h8
              omega
            · have h7 := (hown5.blk q e).1
              simp at h7
              omega)
          go_wp2
          go_ret
          exact ⟨a6, _, c6, rfl, (hOT.out_ rfl).imp (fun q hq => hq.elim id id), hB6⟩
      · obtain rfl : n = 0 := by omega
        have hl0 : l = [] := by
          match l, hnl with
          | [], _ => rfl
        subst hl0
        have hM0 : M = [] := by rw [← hM]; rfl
        subst hM0
        clear hM hnl
        go_enter Tryz.func132, Tryz.ntmps132
        go_wp2
        go_ret
        exact ⟨_, _, _, rfl, (hON.out_ rfl).imp (fun q hq => hq.elim id id), hb0⟩
end Go.Proofs.YtcamcnahkdiefaaGreat
