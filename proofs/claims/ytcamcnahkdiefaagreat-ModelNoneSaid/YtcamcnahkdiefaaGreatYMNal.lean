/- Several texts of mine in one file. -/
import Derived.Test.YtcamcnahkdiefaaGreatYMNaa
import Derived.Test.YtcamcnahkdiefaaGreatYMNai
import Derived.Test.YtcamcnahkdiefaaGreatYMNac
import Derived.Test.YtcamcnahkdiefaaGreatYMNad
import Derived.Sort.KeysCollected
import Derived.Maps.Views
import Derived.Deep.RegionHeld3
import Derived.Maps.RangeWalk
import Derived.Maps.OwnOps
import Derived.Maps.OwnSet
/- Several texts of mine in one file: Po, Pa, Pb, Pc, Pd, Pe, Pf, Pg, Ph, Pm. -/
/- Plain: polynomials as lists of terms, in order, put together. -/
namespace Go.Proofs.YtcamcnahkdiefaaGreat
set_option linter.unusedVariables false
set_option linter.unusedSimpArgs false
abbrev Tm := UInt64 × List Int
def ordR : List Int → List Int → Int
  | x :: xs, y :: ys => if y < x then -1 else if x < y then 1 else ordR xs ys
  | _, _ => 0
theorem ordR_self : ∀ a : List Int, ordR a a = 0
  | [] => rfl
  | x :: xs => by rw [ordR, if_neg (by omega), if_neg (by omega)]; exact ordR_self xs
theorem ordR_eq : ∀ {a b : List Int}, a.length = b.length → ordR a b = 0 → a = b
  | [], [], _, _ => rfl
  | [], y :: ys, h, _ => by simp at h
  | x :: xs, [], h, _ => by simp at h
  | x :: xs, y :: ys, h, k => by
    rw [ordR] at k
    split at k
    · omega
    · split at k
      · omega
      · rw [show x = y by omega, ordR_eq (by simpa using h) k]
theorem ordR_anti : ∀ a b : List Int, ordR b a = - ordR a b
  | [], [] => rfl
  | [], y :: ys => rfl
  | x :: xs, [] => rfl
  | x :: xs, y :: ys => by
    rw [ordR, ordR]
    by_cases h1 : y < x
    · have h2 : ¬ x < y := by omega
      simp [h1, h2]
    · by_cases h2 : x < y
      · simp [h1, h2]
      · simp only [h1, h2, if_false]; exact ordR_anti xs ys
theorem ordR_val : ∀ a b : List Int, ordR a b = -1 ∨ ordR a b = 0 ∨ ordR a b = 1
  | [], _ => .inr (.inl (by cases ‹List Int› <;> rfl))
  | x :: xs, [] => .inr (.inl rfl)
  | x :: xs, y :: ys => by
    rw [ordR]
    split
    · exact .inl rfl
    · split
      · exact .inr (.inr rfl)
      · exact ordR_val xs ys
theorem ordR_trans : ∀ {a b c : List Int}, a.length = b.length → b.length = c.length → ordR a b < 0 → ordR b c < 0 → ordR a c < 0
  | [], _, _, _, _, h, _ => by cases ‹List Int› <;> simp [ordR] at h
  | x :: xs, [], _, h, _, _, _ => by simp at h
  | x :: xs, y :: ys, [], _, h, _, _ => by simp at h
  | x :: xs, y :: ys, z :: zs, h, k, p, q => by
    rw [ordR] at p q ⊢
    by_cases h1 : y < x
    · by_cases h2 : z < y
      · rw [if_pos (by omega)]; decide
      · rw [if_neg h2] at q
        by_cases h3 : y < z
        · rw [if_pos h3] at q; omega
        · rw [if_pos (by omega)]; decide
    · rw [if_neg h1] at p
      by_cases h4 : x < y
      · rw [if_pos h4] at p; omega
      · rw [if_neg h4] at p
        by_cases h2 : z < y
        · rw [if_pos (by omega)]; decide
        · rw [if_neg h2] at q
          by_cases h3 : y < z
          · rw [if_pos h3] at q; omega
          · rw [if_neg h3] at q
            rw [if_neg (by omega), if_neg (by omega)]
            exact ordR_trans (by simpa using h) (by simpa using k) p q
def nzT (l : List Tm) : List Tm := l.filter fun t => t.1 != 0
def mergeT : List Tm → List Tm → List Tm
  | [], b => nzT b
  | x :: a, [] => nzT (x :: a)
  | x :: a, y :: b => if ordR x.2 y.2 < 0 then nzT [x] ++ mergeT a (y :: b) else if 0 < ordR x.2 y.2 then nzT [y] ++ mergeT (x :: a) b else nzT [(x.1 + y.1, x.2)] ++ mergeT a b
termination_by a b => a.length + b.length
def sortT (l : List Tm) : List Tm := if h : 1 < l.length then mergeT (sortT (l.take (l.length / 2))) (sortT (l.drop (l.length / 2))) else nzT l
termination_by l.length
decreasing_by
  · rw [List.length_take]; omega
  · rw [List.length_drop]; omega
def lin (F : List Int → UInt64) : List Tm → UInt64
  | [] => 0
  | t :: l => t.1 * F t.2 + lin F l
theorem lin_append (F : List Int → UInt64) (a b : List Tm) : lin F (a ++ b) = lin F a + lin F b := by
  induction a with
  | nil => simp [lin]
  | cons t a ih => simp only [List.cons_append, lin, ih]; grind
theorem lin_nz (F : List Int → UInt64) (l : List Tm) : lin F (nzT l) = lin F l := by
  induction l with
  | nil => rfl
  | cons t l ih =>
    unfold nzT at ih ⊢
    rw [List.filter_cons]
    split
    · simp only [lin, ih]
    · rename_i h
      have h0 : t.1 = 0 := by simpa using h
      rw [ih, lin, h0]; grind
def LenT (n : Nat) (l : List Tm) : Prop := ∀ t ∈ l, t.2.length = n
theorem LenT.tail {n : Nat} {t : Tm} {l : List Tm} (h : LenT n (t :: l)) : LenT n l := fun s hs => h s (List.mem_cons_of_mem _ hs)
theorem LenT.head {n : Nat} {t : Tm} {l : List Tm} (h : LenT n (t :: l)) : t.2.length = n := h t List.mem_cons_self
theorem LenT.app {n : Nat} {a b : List Tm} (h : LenT n a) (k : LenT n b) : LenT n (a ++ b) := fun s hs => (List.mem_append.1 hs).elim (h s) (k s)
theorem nz_one (t : Tm) : nzT [t] = if t.1 = 0 then [] else [t] := by
  unfold nzT
  by_cases h : t.1 = 0
  · rw [if_pos h]; simp [h]
  · rw [if_neg h]; simp [h]
theorem lin_merge (F : List Int → UInt64) {n : Nat} (a b : List Tm) (ha : LenT n a) (hb : LenT n b) : lin F (mergeT a b) = lin F a + lin F b := by
  fun_induction mergeT a b with
  | case1 b => rw [lin_nz, lin]; grind
  | case2 x a => rw [lin_nz, show lin F [] = 0 from rfl]; grind
  | case3 x a y b h ih => rw [lin_append, lin_nz, ih ha.tail hb]; simp only [lin]; grind
  | case4 x a y b h1 h2 ih => rw [lin_append, lin_nz, ih ha hb.tail]; simp only [lin]; grind
  | case5 x a y b h1 h2 ih =>
    have e : x.2 = y.2 := ordR_eq (by rw [ha.head, hb.head]) (by have := ordR_val x.2 y.2; omega)
    rw [lin_append, lin_nz, ih ha.tail hb.tail]; simp only [lin]; rw [e]; grind
theorem mem_nz {t : Tm} {l : List Tm} (h : t ∈ nzT l) : t.1 ≠ 0 ∧ t ∈ l := by
  unfold nzT at h
  have := List.mem_filter.1 h
  exact ⟨by simpa using this.2, this.1⟩
theorem mem_merge (a b : List Tm) (t : Tm) (h : t ∈ mergeT a b) : t.1 ≠ 0 ∧ ∃ s ∈ a ++ b, s.2 = t.2 := by
  fun_induction mergeT a b with
  | case1 b => exact ⟨(mem_nz h).1, t, by simpa using (mem_nz h).2, rfl⟩
  | case2 x a => exact ⟨(mem_nz h).1, t, by simpa using (mem_nz h).2, rfl⟩
  | case3 x a y b hc ih =>
    rcases List.mem_append.1 h with h | h
    · have hx : t = x := by simpa using (mem_nz h).2
      exact ⟨(mem_nz h).1, x, by simp, by rw [hx]⟩
    · obtain ⟨h1, s, hs, e⟩ := ih h
      exact ⟨h1, s, by simp only [List.mem_append, List.mem_cons] at hs ⊢; grind, e⟩
  | case4 x a y b hc hd ih =>
    rcases List.mem_append.1 h with h | h
    · have hx : t = y := by simpa using (mem_nz h).2
      exact ⟨(mem_nz h).1, y, by simp, by rw [hx]⟩
    · obtain ⟨h1, s, hs, e⟩ := ih h
      exact ⟨h1, s, by simp only [List.mem_append, List.mem_cons] at hs ⊢; grind, e⟩
  | case5 x a y b hc hd ih =>
    rcases List.mem_append.1 h with h | h
    · have hx : t = (x.1 + y.1, x.2) := by simpa using (mem_nz h).2
      exact ⟨(mem_nz h).1, x, by simp, by rw [hx]⟩
    · obtain ⟨h1, s, hs, e⟩ := ih h
      exact ⟨h1, s, by simp only [List.mem_append, List.mem_cons] at hs ⊢; grind, e⟩
def SrtT (l : List Tm) : Prop := l.Pairwise fun s t => ordR s.2 t.2 < 0
structure Canon (n : Nat) (l : List Tm) : Prop where
  srt : SrtT l
  nz : ∀ t ∈ l, t.1 ≠ 0
  len : LenT n l
theorem SrtT.nz {l : List Tm} (h : SrtT l) : SrtT (nzT l) := List.Pairwise.filter _ h
theorem SrtT.one (x : Tm) {l : List Tm} (h : ∀ t ∈ l, ordR x.2 t.2 < 0) (k : SrtT l) : SrtT (nzT [x] ++ l) := by
  rw [nz_one]
  split
  · exact k
  · exact List.pairwise_cons.2 ⟨h, k⟩
theorem merge_srt {n : Nat} (a b : List Tm) (ha : LenT n a) (hb : LenT n b) (sa : SrtT a) (sb : SrtT b) : SrtT (mergeT a b) := by
  fun_induction mergeT a b with
  | case1 b => exact sb.nz
  | case2 x a => exact sa.nz
  | case3 x a y b hc ih =>
    have sx := List.pairwise_cons.1 sa
    have sy := List.pairwise_cons.1 sb
    refine SrtT.one x (fun t ht => ?_) (ih ha.tail hb sx.2 sb)
    obtain ⟨_, s, hs, e⟩ := mem_merge _ _ t ht
    rw [← e]
    rcases List.mem_append.1 hs with hs | hs
    · exact sx.1 s hs
    · rcases List.mem_cons.1 hs with rfl | hs
      · exact hc
      · exact ordR_trans (by rw [ha.head, hb.head]) (by rw [hb.head, hb.tail s hs]) hc (sy.1 s hs)
  | case4 x a y b hc hd ih =>
    have sx := List.pairwise_cons.1 sa
    have sy := List.pairwise_cons.1 sb
    have hyx : ordR y.2 x.2 < 0 := by rw [ordR_anti]; omega
    refine SrtT.one y (fun t ht => ?_) (ih ha hb.tail sa sy.2)
    obtain ⟨_, s, hs, e⟩ := mem_merge _ _ t ht
    rw [← e]
    rcases List.mem_append.1 hs with hs | hs
    · rcases List.mem_cons.1 hs with rfl | hs
      · exact hyx
      · exact ordR_trans (by rw [ha.head, hb.head]) (by rw [ha.head, ha.tail s hs]) hyx (sx.1 s hs)
    · exact sy.1 s hs
  | case5 x a y b hc hd ih =>
    have sx := List.pairwise_cons.1 sa
    have sy := List.pairwise_cons.1 sb
    have e0 : x.2 = y.2 := ordR_eq (by rw [ha.head, hb.head]) (by have := ordR_val x.2 y.2; omega)
    refine SrtT.one (x.1 + y.1, x.2) (fun t ht => ?_) (ih ha.tail hb.tail sx.2 sy.2)
    obtain ⟨_, s, hs, e⟩ := mem_merge _ _ t ht
    show ordR x.2 t.2 < 0
    rw [← e]
    rcases List.mem_append.1 hs with hs | hs
    · exact sx.1 s hs
    · rw [e0]; exact sy.1 s hs
theorem mergeT_canon {n : Nat} {a b : List Tm} (ha : LenT n a) (hb : LenT n b) (sa : SrtT a) (sb : SrtT b) : Canon n (mergeT a b) :=
  ⟨merge_srt a b ha hb sa sb, fun t ht => (mem_merge a b t ht).1, fun t ht => by
    obtain ⟨_, s, hs, e⟩ := mem_merge a b t ht
    rw [← e]; exact (ha.app hb) s hs⟩
theorem LenT.take {n k : Nat} {l : List Tm} (h : LenT n l) : LenT n (l.take k) := fun t ht => h t (List.mem_of_mem_take ht)
theorem LenT.drop {n k : Nat} {l : List Tm} (h : LenT n l) : LenT n (l.drop k) := fun t ht => h t (List.mem_of_mem_drop ht)
theorem nz_canon {n : Nat} {l : List Tm} (h : LenT n l) (hl : l.length ≤ 1) : Canon n (nzT l) := by
  match l, hl with
  | [], _ => exact ⟨List.Pairwise.nil, fun t ht => by simp [nzT] at ht, fun t ht => by simp [nzT] at ht⟩
  | [x], _ =>
    refine ⟨?_, fun t ht => (mem_nz ht).1, fun t ht => h t (mem_nz ht).2⟩
    have := SrtT.one x (l := []) (fun t ht => by simp at ht) List.Pairwise.nil
    rwa [List.append_nil] at this
theorem sortT_canon {n : Nat} (l : List Tm) (h : LenT n l) : Canon n (sortT l) := by
  fun_induction sortT l with
  | case1 l hl ih1 ih2 =>
    have c1 := ih1 h.take
    have c2 := ih2 h.drop
    exact mergeT_canon c1.len c2.len c1.srt c2.srt
  | case2 l hl => exact nz_canon h (by omega)
theorem lin_sort (F : List Int → UInt64) {n : Nat} (l : List Tm) (h : LenT n l) : lin F (sortT l) = lin F l := by
  fun_induction sortT l with
  | case1 l hl ih1 ih2 =>
    rw [lin_merge F _ _ (sortT_canon _ h.take).len (sortT_canon _ h.drop).len, ih1 h.take, ih2 h.drop, ← lin_append, List.take_append_drop]
  | case2 l hl => exact lin_nz F l
def dlt (e : List Int) : List Int → UInt64 := fun x => if x = e then 1 else 0
theorem lin_dlt_out (e : List Int) (l : List Tm) (h : ∀ t ∈ l, t.2 ≠ e) : lin (dlt e) l = 0 := by
  induction l with
  | nil => rfl
  | cons t l ih =>
    rw [lin, ih (fun s hs => h s (List.mem_cons_of_mem _ hs))]
    unfold dlt
    rw [if_neg (h t List.mem_cons_self)]; grind
theorem srt_ne {n : Nat} {x : Tm} {l : List Tm} (h : Canon n (x :: l)) : ∀ t ∈ l, t.2 ≠ x.2 := by
  intro t ht e
  have := (List.pairwise_cons.1 h.srt).1 t ht
  rw [e, ordR_self] at this
  omega
theorem lin_dlt_head {n : Nat} {x : Tm} {l : List Tm} (h : Canon n (x :: l)) : lin (dlt x.2) (x :: l) = x.1 := by
  rw [lin, lin_dlt_out x.2 l (srt_ne h)]
  unfold dlt
  rw [if_pos rfl]; grind
theorem Canon.tail {n : Nat} {x : Tm} {l : List Tm} (h : Canon n (x :: l)) : Canon n l := ⟨(List.pairwise_cons.1 h.srt).2, fun t ht => h.nz t (List.mem_cons_of_mem _ ht), h.len.tail⟩
theorem far_ne {n : Nat} {x y : Tm} {b : List Tm} (hx : x.2.length = n) (h : Canon n (y :: b)) (hc : ordR x.2 y.2 < 0) : ∀ t ∈ y :: b, t.2 ≠ x.2 := by
  intro t ht e
  have h1 : ordR x.2 t.2 < 0 := by
    rcases List.mem_cons.1 ht with rfl | ht
    · exact hc
    · exact ordR_trans (by rw [hx, h.len.head]) (by rw [h.len.head, h.len.tail t ht]) hc ((List.pairwise_cons.1 h.srt).1 t ht)
  rw [e, ordR_self] at h1
  omega
theorem canon_uniq {n : Nat} : ∀ (a b : List Tm), Canon n a → Canon n b → (∀ F, lin F a = lin F b) → a = b
  | [], [], _, _, _ => rfl
  | [], y :: b, _, hb, h => by
    have := h (dlt y.2)
    rw [lin_dlt_head hb] at this
    exact absurd this.symm (hb.nz y List.mem_cons_self)
  | x :: a, [], ha, _, h => by
    have := h (dlt x.2)
    rw [lin_dlt_head ha] at this
    exact absurd this (ha.nz x List.mem_cons_self)
  | x :: a, y :: b, ha, hb, h => by
    have hx := ha.len.head
    have hy := hb.len.head
    rcases ordR_val x.2 y.2 with hc | hc | hc
    · have h1 := h (dlt x.2)
      rw [lin_dlt_head ha, lin_dlt_out x.2 _ (far_ne hx hb (by omega))] at h1
      exact absurd h1 (ha.nz x List.mem_cons_self)
    · have e : x.2 = y.2 := ordR_eq (by rw [hx, hy]) hc
      have h1 := h (dlt x.2)
      rw [lin_dlt_head ha, e, lin_dlt_head hb] at h1
      have exy : x = y := Prod.ext h1 e
      rw [exy, canon_uniq a b ha.tail hb.tail (fun F => by
        have h2 := h F
        rw [lin, lin, exy] at h2
        grind)]
    · have hc' : ordR y.2 x.2 < 0 := by rw [ordR_anti]; omega
      have h1 := h (dlt y.2)
      rw [lin_dlt_head hb, lin_dlt_out y.2 _ (far_ne hy ha hc')] at h1
      exact absurd h1.symm (hb.nz y List.mem_cons_self)
theorem sort_uniq {n : Nat} {a : List Tm} {l : List Tm} (ha : Canon n a) (hl : LenT n l) (h : ∀ F, lin F a = lin F l) : a = sortT l :=
  canon_uniq a _ ha (sortT_canon l hl) fun F => by rw [h F, lin_sort F l hl]
theorem sort_self {n : Nat} {a : List Tm} (ha : Canon n a) : sortT a = a := (sort_uniq ha ha.len fun _ => rfl).symm
end Go.Proofs.YtcamcnahkdiefaaGreat

/- Polynomials in memory; which powers may be, which stand first. -/
namespace Go.Proofs.YtcamcnahkdiefaaGreat
set_option linter.unusedVariables false
set_option linter.unusedSimpArgs false
open Go.RowKit
structure TmH where
  c : UInt64
  a : Option Addr
  n : Nat
  k : Nat
instance : Flat TmH := ⟨2, fun x => [.int .u64 (x.c.toNat : Int), .slice x.a x.n x.k], fun _ => rfl, fun x u hu => by simp at hu; rcases hu with rfl | rfl <;> rfl, by decide⟩
instance : Inhabited TmH := ⟨⟨0, none, 0, 0⟩⟩
def TmH.of (w : World) (h : TmH) (t : Tm) : Prop := h.c = t.1 ∧ h.n = t.2.length ∧ h.n ≤ h.k ∧ h.k ≤ 9223372036854775807 ∧ At w h.a t.2
def AtT (w : World) (a : Option Addr) (ts : List Tm) : Prop := ∃ hs : List TmH, At w a hs ∧ hs.length = ts.length ∧ ∀ (i : Nat) (h : TmH) (t : Tm), hs[i]? = some h → ts[i]? = some t → TmH.of w h t
theorem TmH.of.belowN {w w' : World} {h : TmH} {t : Tm} (k : TmH.of w h t) (hb : Below w.heap.size w w') : TmH.of w' h t := ⟨k.1, k.2.1, k.2.2.1, k.2.2.2.1, k.2.2.2.2.belowN hb⟩
theorem AtT.belowN {w w' : World} {a : Option Addr} {ts : List Tm} (h : AtT w a ts) (hb : Below w.heap.size w w') : AtT w' a ts := by
  obtain ⟨hs, h1, h2, h3⟩ := h
  exact ⟨hs, h1.belowN hb, h2, fun i y t e1 e2 => (h3 i y t e1 e2).belowN hb⟩
theorem AtT.nil (w : World) (a : Option Addr) : AtT w a [] := ⟨[], At.nil _ _, rfl, fun i h t e => by simp at e⟩
theorem AtT.get {w wr : World} {a : Option Addr} {ts : List Tm} (h : AtT w a ts) (hb : Below w.heap.size w wr) {k : Nat} (hk : k < ts.length) :
    ∃ (b off : Nat) (t : Tm) (ea : Option Addr) (en ec : Nat), a = some ⟨b, off, none⟩ ∧ Hid (ts[k]? = some t) ∧ wr.cell? ⟨b, off + k * 2, none⟩ = some (.int .u64 (t.1.toNat : Int)) ∧ wr.cell? ⟨b, off + k * 2 + 1, none⟩ = some (.slice ea en ec) ∧ Hid (en = t.2.length) ∧ en ≤ ec ∧ ec ≤ 9223372036854775807 ∧ At wr ea t.2 := by
  obtain ⟨hs, h1, h2, h3⟩ := h
  obtain ⟨b, off, y, e, hy, hc⟩ := (h1.belowN hb).get (k := k) (by omega)
  have ht : ts[k]? = some ts[k] := List.getElem?_eq_getElem hk
  obtain ⟨q1, q2, q3, q4, q5⟩ := (h3 k y _ hy.out ht).belowN hb
  have c0 := hc 0 _ rfl
  have c1 := hc 1 _ rfl
  refine ⟨b, off, ts[k], y.a, y.n, y.k, e, hide ht, ?_, ?_, hide q2, q3, q4, q5⟩
  · rw [← q1]; simpa [Flat.n] using c0
  · simpa [Flat.n] using c1
def rightT (vars : Int) (e : List Int) : Bool := decide ((e.length : Int) = vars) && !e.any fun n => decide (n < 0) || decide (65535 < n)
theorem rightT_len {vars : Int} {e : List Int} (h : rightT vars e = true) : (e.length : Int) = vars := by
  unfold rightT at h
  simp only [Bool.and_eq_true, decide_eq_true_eq] at h
  exact h.1
theorem rightT_in {vars : Int} {e : List Int} (h : rightT vars e = true) : ∀ n ∈ e, 0 ≤ n ∧ n ≤ 65535 := by
  unfold rightT at h
  simp only [Bool.and_eq_true, decide_eq_true_eq, Bool.not_eq_true', List.any_eq_false, Bool.or_eq_true] at h
  intro n hn
  have := h.2 n hn
  omega
end Go.Proofs.YtcamcnahkdiefaaGreat

/- poly.right; how powers are compared. -/
namespace Go.Proofs.YtcamcnahkdiefaaGreat
set_option linter.unusedVariables false
set_option linter.unusedSimpArgs false
open Go.RowKit
def outB (n : Int) : Bool := decide (n < 0) || decide (65535 < n)
theorem RightClo_calls (n : Int) (w : World) : Calls Tryz.prog 141 #[.int .i64 n] w fun v w' => v = .returned (.bool (outB n)) ∧ w = w' := by
  unfold outB
  by_cases h : n < 0
  · have e : (decide (n < 0) || decide (65535 < n)) = true := by rw [decide_eq_true h]; rfl
    rw [e]
    clear e
    go_enter Tryz.func141, Tryz.ntmps141
    go_wp2
    go_ret
    exact ⟨rfl, rfl⟩
  · by_cases h2 : 65535 < n
    · have e : (decide (n < 0) || decide (65535 < n)) = true := by rw [decide_eq_true h2, Bool.or_true]
      rw [e]
      clear e
      go_enter Tryz.func141, Tryz.ntmps141
      go_wp2
      go_ret
      exact ⟨rfl, rfl⟩
    · have e : (decide (n < 0) || decide (65535 < n)) = false := by rw [decide_eq_false h, decide_eq_false h2]; rfl
      rw [e]
      clear e
      go_enter Tryz.func141, Tryz.ntmps141
      go_wp2
      go_ret
      exact ⟨rfl, rfl⟩
set_option maxHeartbeats 1600000 in
theorem IndexRt_calls (a : Option Addr) (n c : Nat) (e : List Int) (hn : n = e.length) (w : World) (h : At w a e) (hl : n ≤ 1000000) (A : Bool) (hA : e.any outB = A) :
    Calls Tryz.prog 165 #[.slice a n c, .func (.func 141) #[] #[]] w fun v w' => (A = true → ∃ j : Nat, v = .returned (.int .i64 (j : Int))) ∧ (A = false → v = .returned (.int .i64 (-1))) ∧ w = w' := by
  have HA := hide hA
  have HN := hide hn
  clear hA hn
  go_enter Tryz.func165, Tryz.ntmps165
  go_wp2
  go_loopw [8] (fun i wr => ∃ k : Nat, i = .int .i64 k ∧ k ≤ n ∧ Hid ((e.drop k).any outB = A) ∧ wr = w) (fun i _ => n - (intOf i).toNat)
  case atStart => exact ⟨0, rfl, by omega, HA.out, rfl⟩
  case round =>
    obtain ⟨k, rfl, hk, hAk, rfl⟩ := hrel
    by_cases hlt : k < n
    · obtain ⟨b1, off1, x, rfl, hx, x0⟩ := h.getI (Below.refl _ _) (k := k) (by rw [← HN.out]; exact hlt)
      have hA2 := hAk.out
      rw [drop_at hx.out, List.any_cons] at hA2
      have hk0 : (0 : Int) ≤ (k : Int) := by omega
      have hk1 : (k : Int) < (n : Int) := by omega
      have HC := hide (RightClo_calls x wr)
      clear hx
      cases hp : outB x with
      | true =>
        rw [hp] at hA2 HC
        have HR : Hid (A = true) := by show A = true; rw [← hA2]; rfl
        clear hA2 hp
        go_wp2_with (go_at_call 141; go_must ((with_reducible refine (HC.out).mono ?_); rintro v w1 ⟨rfl, rfl⟩))
        go_ret
        exact ⟨fun _ => ⟨k, rfl⟩, fun h => (by rw [HR.out] at h; cases h), rfl⟩
      | false =>
        rw [hp] at hA2 HC
        have HA2 := hide hA2
        clear hA2 hp
        go_wp2_with (go_at_call 141; go_must ((with_reducible refine (HC.out).mono ?_); rintro v w1 ⟨rfl, rfl⟩))
        go_roundw
        case rel => exact ⟨k + 1, by go_num, by omega, HA2.out, by first | rfl | trivial⟩
        case measure => simp [intOf]; omega
    · obtain rfl : k = n := by omega
      have hA2 := hAk.out
      rw [List.drop_eq_nil_of_le (by rw [← HN.out]; exact Nat.le_refl _)] at hA2
      have HR : Hid (A = false) := by show A = false; rw [← hA2]; rfl
      clear hA2
      go_wp2
      go_ret
      exact ⟨fun h => (by rw [HR.out] at h; cases h), fun _ => rfl, rfl⟩
theorem ContRt_calls (a : Option Addr) (n c : Nat) (e : List Int) (hn : n = e.length) (w : World) (h : At w a e) (hl : n ≤ 1000000) (A : Bool) (hA : e.any outB = A) :
    Calls Tryz.prog 140 #[.slice a n c, .func (.func 141) #[] #[]] w fun v w' => v = .returned (.bool A) ∧ w = w' := by
  have HI := hide (IndexRt_calls a n c e hn w h hl A hA)
  clear hA hn
  cases A with
  | true =>
    go_enter Tryz.func140, Tryz.ntmps140
    go_wp2_with (go_at_call 165; go_must ((with_reducible refine (HI.out).mono ?_); rintro v w1 ⟨h1, _, rfl⟩; obtain ⟨j, rfl⟩ := h1 rfl; have hj : (0 : Int) ≤ (j : Int) := by omega))
    go_ret
    exact ⟨rfl, rfl⟩
  | false =>
    go_enter Tryz.func140, Tryz.ntmps140
    go_wp2_with (go_at_call 165; go_must ((with_reducible refine (HI.out).mono ?_); rintro v w1 ⟨_, h1, rfl⟩; obtain rfl := h1 rfl))
    go_ret
    exact ⟨rfl, rfl⟩
set_option maxHeartbeats 800000 in
theorem PRight_calls (vars : Int) (a : Option Addr) (n c : Nat) (e : List Int) (hn : n = e.length) (w : World) (h : At w a e) (hl : n ≤ 1000000) (B : Bool) (hB : rightT vars e = B) :
    Calls Tryz.prog 99 #[.int .i64 vars, .slice a n c] w fun v w' => v = .returned (.bool B) ∧ w = w' := by
  unfold rightT at hB
  rw [← hn] at hB
  by_cases hv : (n : Int) = vars
  · rw [decide_eq_true hv, Bool.true_and] at hB
    have HC := hide (ContRt_calls a n c e hn w h hl (!B) (by rw [← hB, Bool.not_not]; rfl))
    subst hv
    have e1 : ((n : Int) == (n : Int)) = true := by simp
    clear hB hn
    go_enter Tryz.func99, Tryz.ntmps99
    go_wp2_with (go_at_call 140; go_must ((with_reducible refine (HC.out).mono ?_); rintro v w1 ⟨rfl, rfl⟩))
    go_ret
    exact ⟨by simp, rfl⟩
  · rw [decide_eq_false hv, Bool.false_and] at hB
    subst hB
    have e1 : ((n : Int) != vars) = true := by simpa using hv
    have e2 : ((n : Int) == vars) = false := by simpa using hv
    clear hv hn
    go_enter Tryz.func99, Tryz.ntmps99
    go_wp2
    go_ret
    exact ⟨rfl, rfl⟩
theorem IsNaN_calls (x : Int) (w : World) : Calls Tryz.prog 166 #[.int .i64 x] w fun v w' => v = .returned (.bool false) ∧ w = w' := by
  have e : (x != x) = false := by simp
  go_enter Tryz.func166, Tryz.ntmps166
  go_wp2
  go_ret
  exact ⟨rfl, rfl⟩
theorem CmpI_calls (x y : Int) (w : World) (R : Int) (hR : (if y < x then 1 else if x < y then -1 else 0) = R) : Calls Tryz.prog 142 #[.int .i64 x, .int .i64 y] w fun v w' => v = .returned (.int .i64 R) ∧ w = w' := by
  have HX := hide (IsNaN_calls x w)
  have HY := hide (IsNaN_calls y w)
  by_cases h1 : y < x
  · rw [if_pos h1] at hR
    subst hR
    have h2 : ¬ x < y := by omega
    go_enter Tryz.func142, Tryz.ntmps142
    go_wp2_with (go_at_call 166; (first | ((with_reducible refine (HX.out).mono ?_); rintro v w1 ⟨rfl, rfl⟩) | ((with_reducible refine (HY.out).mono ?_); rintro v w1 ⟨rfl, rfl⟩)))
    go_ret
    exact ⟨rfl, rfl⟩
  · rw [if_neg h1] at hR
    by_cases h2 : x < y
    · rw [if_pos h2] at hR
      subst hR
      go_enter Tryz.func142, Tryz.ntmps142
      go_wp2_with (go_at_call 166; (first | ((with_reducible refine (HX.out).mono ?_); rintro v w1 ⟨rfl, rfl⟩) | ((with_reducible refine (HY.out).mono ?_); rintro v w1 ⟨rfl, rfl⟩)))
      go_ret
      exact ⟨rfl, rfl⟩
    · rw [if_neg h2] at hR
      subst hR
      go_enter Tryz.func142, Tryz.ntmps142
      go_wp2_with (go_at_call 166; (first | ((with_reducible refine (HX.out).mono ?_); rintro v w1 ⟨rfl, rfl⟩) | ((with_reducible refine (HY.out).mono ?_); rintro v w1 ⟨rfl, rfl⟩)))
      go_ret
      exact ⟨rfl, rfl⟩
set_option maxHeartbeats 1600000 in
theorem Compare_calls (a b : Option Addr) (n ca cb : Nat) (e f : List Int) (hn : n = e.length) (hm : n = f.length) (w : World) (h : At w a e) (h' : At w b f) (hl : n ≤ 1000000) (R : Int) (hR : - ordR e f = R) :
    Calls Tryz.prog 100 #[.slice a n ca, .slice b n cb] w fun v w' => v = .returned (.int .i64 R) ∧ w = w' := by
  have HN := hide hn
  have HM := hide hm
  have HR := hide hR
  clear hn hm hR
  go_enter Tryz.func100, Tryz.ntmps100
  go_wp2
  go_loopw [11] (fun i wr => ∃ k : Nat, i = .int .i64 k ∧ k ≤ n ∧ Hid (- ordR (e.drop k) (f.drop k) = R) ∧ wr = w) (fun i _ => n - (intOf i).toNat)
  case atStart => exact ⟨0, rfl, by omega, HR.out, rfl⟩
  case round =>
    obtain ⟨k, rfl, hk, hRk, rfl⟩ := hrel
    by_cases hlt : k < n
    · obtain ⟨b1, off1, x, rfl, hx, x0⟩ := h.getI (Below.refl _ _) (k := k) (by rw [← HN.out]; exact hlt)
      obtain ⟨b2, off2, y, rfl, hy, y0⟩ := h'.getI (Below.refl _ _) (k := k) (by rw [← HM.out]; exact hlt)
      have hR2 := hRk.out
      rw [drop_at hx.out, drop_at hy.out, ordR] at hR2
      have hk0 : (0 : Int) ≤ (k : Int) := by omega
      have hk1 : (k : Int) < (n : Int) := by omega
      have hk2 : ¬ (n : Int) ≤ (k : Int) := by omega
      obtain ⟨S, hS⟩ : ∃ S : Int, (if y < x then 1 else if x < y then -1 else 0) = S := ⟨_, rfl⟩
      have HC := hide (CmpI_calls x y wr S hS)
      clear hx hy
      by_cases hS0 : S = 0
      · have h1 : ¬ y < x := by intro q; rw [if_pos q] at hS; omega
        have h2 : ¬ x < y := by intro q; rw [if_neg h1, if_pos q] at hS; omega
        rw [if_neg h1, if_neg h2] at hR2
        have HR2 := hide hR2
        subst hS0
        clear hS hR2
        go_wp2_with (go_at_call 142; go_must ((with_reducible refine (HC.out).mono ?_); rintro v w1 ⟨rfl, rfl⟩))
        go_roundw
        case rel => exact ⟨k + 1, by go_num, by omega, HR2.out, by first | rfl | trivial⟩
        case measure => simp [intOf]; omega
      · have e1 : (S == 0) = false := by simpa using hS0
        have e2 : (S != 0) = true := by simpa using hS0
        have HRS : Hid (R = S) := by
          show R = S
          rw [← hR2, ← hS]
          by_cases h1 : y < x
          · rw [if_pos h1, if_pos h1]; rfl
          · rw [if_neg h1, if_neg h1]
            by_cases h2 : x < y
            · rw [if_pos h2, if_pos h2]
            · rw [if_neg h1, if_neg h2] at hS; exact absurd hS.symm hS0
        clear hS hR2 hS0
        go_wp2_with (go_at_call 142; go_must ((with_reducible refine (HC.out).mono ?_); rintro v w1 ⟨rfl, rfl⟩))
        go_ret
        exact ⟨by rw [HRS.out]; rfl, rfl⟩
    · obtain rfl : k = n := by omega
      have hR2 := hRk.out
      rw [List.drop_eq_nil_of_le (by rw [← HN.out]; exact Nat.le_refl _)] at hR2
      have hR3 : R = 0 := by rw [← hR2, ordR]; rfl; intros; simp_all
      subst hR3
      clear hR2
      go_wp2
      go_ret
      exact ⟨rfl, rfl⟩
end Go.Proofs.YtcamcnahkdiefaaGreat

/- Check of both sides. -/
namespace Go.Proofs.YtcamcnahkdiefaaGreat
set_option linter.unusedVariables false
set_option linter.unusedSimpArgs false
open Go.RowKit
theorem quietS {P : Program} {f : FuncId} {args : Array Value} {w w1 : World} {n : Nat} {v : Value}
    (h : Calls P f args w1 fun e w' => e = .returned v ∧ w1 = w') (e1 : w1 = w.drewN n) : Calls P f args w1 fun e w'' => e = .returned v ∧ ∃ m, w'' = w.drewN m :=
  h.mono fun _ _ ⟨he, hm⟩ => ⟨he, n, by rw [← hm, e1]⟩
theorem quietSA {P : Program} {f : FuncId} {args : Array Value} {w w1 : World} {a n : Nat} {v : Value}
    (h : Calls P f args w1 fun e w' => e = .returned v ∧ w1 = w') (e1 : w1 = w.drewN (a + n)) : Calls P f args w1 fun e w'' => e = .returned v ∧ ∃ m, w'' = w.drewN (a + m) :=
  h.mono fun _ _ ⟨he, hm⟩ => ⟨he, n, by rw [← hm, e1]⟩
def okPrev : Option (List Int) → List Int → Bool
  | none, _ => true
  | some e, f => decide (ordR e f < 0)
def chkT (vars : Int) : Option (List Int) → List Tm → Bool
  | _, [] => true
  | pr, t :: l => (t.1 != 0) && rightT vars t.2 && okPrev pr t.2 && chkT vars (some t.2) l
def prevT (ts : List Tm) (k : Nat) : Option (List Int) := if k = 0 then none else (ts[k - 1]?).map (·.2)
def checkP (vars : Int) (ts : List Tm) : Bool := decide (0 ≤ vars) && decide (vars ≤ 64) && decide (ts.length ≤ 4096) && chkT vars none ts
theorem prevT_succ {ts : List Tm} {k : Nat} {t : Tm} (h : ts[k]? = some t) : prevT ts (k + 1) = some t.2 := by
  unfold prevT; rw [if_neg (by omega), Nat.add_sub_cancel, h]; rfl
theorem chkT_canon {vars : Int} {n : Nat} (hn : (n : Int) = vars) : ∀ (pr : Option (List Int)) (l : List Tm), (∀ e, pr = some e → e.length = n) → chkT vars pr l = true → Canon n l ∧ (∀ t ∈ l, rightT vars t.2 = true) ∧ (∀ e, pr = some e → ∀ t ∈ l, ordR e t.2 < 0)
  | pr, [], _, _ => ⟨⟨List.Pairwise.nil, fun t ht => by simp at ht, fun t ht => by simp at ht⟩, fun t ht => by simp at ht, fun e _ t ht => by simp at ht⟩
  | pr, t :: l, hp, h => by
    rw [chkT] at h
    simp only [Bool.and_eq_true] at h
    obtain ⟨⟨⟨h1, h2⟩, h3⟩, h4⟩ := h
    have hl : t.2.length = n := by have := rightT_len h2; omega
    obtain ⟨c, r, o⟩ := chkT_canon hn (some t.2) l (fun e he => by injection he with he; rw [← he]; exact hl) h4
    have ho := o t.2 rfl
    refine ⟨⟨List.pairwise_cons.2 ⟨ho, c.srt⟩, ?_, ?_⟩, ?_, ?_⟩
    · intro s hs; rcases List.mem_cons.1 hs with rfl | hs
      · simpa using h1
      · exact c.nz s hs
    · intro s hs; rcases List.mem_cons.1 hs with rfl | hs
      · exact hl
      · exact c.len s hs
    · intro s hs; rcases List.mem_cons.1 hs with rfl | hs
      · exact h2
      · exact r s hs
    · intro e he s hs
      subst he
      have h5 : ordR e t.2 < 0 := by simpa [okPrev] using h3
      rcases List.mem_cons.1 hs with rfl | hs
      · exact h5
      · exact ordR_trans (by rw [hp e rfl, hl]) (by rw [hl, c.len s hs]) h5 (ho s hs)
structure OkP (vars : Int) (n : Nat) (ts : List Tm) : Prop where
  v : (n : Int) = vars
  n64 : n ≤ 64
  len : ts.length ≤ 4096
  can : Canon n ts
  rt : ∀ t ∈ ts, rightT vars t.2 = true
theorem checkP_ok {vars : Int} {ts : List Tm} (h : checkP vars ts = true) : OkP vars vars.toNat ts := by
  unfold checkP at h
  simp only [Bool.and_eq_true, decide_eq_true_eq] at h
  obtain ⟨⟨⟨h1, h2⟩, h3⟩, h4⟩ := h
  obtain ⟨c, r, _⟩ := chkT_canon (vars := vars) (n := vars.toNat) (by omega) none ts (fun e he => by cases he) h4
  exact ⟨by omega, by omega, h3, c, r⟩
set_option maxRecDepth 100000 in
set_option maxHeartbeats 3200000 in
theorem Check_calls (vars : Int) (a : Option Addr) (n c : Nat) (ts : List Tm) (hn : n = ts.length) (w : World) (h : AtT w a ts) (hl : n ≤ 1000000) (hll : ∀ t ∈ ts, t.2.length ≤ 1000000) (B : Bool) (hB : checkP vars ts = B) :
    Calls Tryz.prog 49 #[.agg #[.int .i64 vars, .slice a n c]] w fun v w' => v = .returned (.bool B) ∧ Below w.heap.size w w' := by
  have hb0 := below_box w (.cells #[.int .i64 vars, .slice a n c] 42)
  have hX := Blk.new w 42 #[.int .i64 vars, .slice a n c]
  unfold checkP at hB
  rw [← hn] at hB
  by_cases hbad : vars < 0 ∨ 64 < vars ∨ 4096 < n
  · have hBF : B = false := by
      rw [← hB]
      rcases hbad with q | q | q
      · rw [decide_eq_false (show ¬ 0 ≤ vars by omega)]; rfl
      · rw [decide_eq_false (show ¬ vars ≤ 64 by omega), Bool.and_false]; rfl
      · rw [decide_eq_false (show ¬ n ≤ 4096 by omega), Bool.and_false]; rfl
    subst hBF
    clear hB hn
    by_cases h1 : vars < 0
    · go_enter Tryz.func49, Tryz.ntmps49
      go_wp2
      go_ret
      exact ⟨rfl, hb0⟩
    · by_cases h2 : 64 < vars
      · go_enter Tryz.func49, Tryz.ntmps49
        go_wp2
        go_ret
        exact ⟨rfl, hb0⟩
      · have h3 : (4096 : Int) < (n : Int) := by omega
        clear hbad
        go_enter Tryz.func49, Tryz.ntmps49
        go_wp2
        go_ret
        exact ⟨rfl, hb0⟩
  · have h1 : ¬ vars < 0 := by omega
    have h2 : ¬ 64 < vars := by omega
    have h3 : ¬ (4096 : Int) < (n : Int) := by omega
    rw [decide_eq_true (show 0 ≤ vars by omega), decide_eq_true (show vars ≤ 64 by omega), decide_eq_true (show n ≤ 4096 by omega)] at hB
    have HB : Hid (chkT vars (prevT ts 0) (ts.drop 0) = B) := by show _ = B; rw [← hB]; rfl
    have HN := hide hn
    have HLL := hide hll
    clear hB hn hbad hll
    obtain ⟨w0, hw0⟩ : ∃ w0, w0 = w.alloc (.cells #[.int .i64 vars, .slice a n c] 42) := ⟨_, rfl⟩
    go_enter Tryz.func49, Tryz.ntmps49
    go_wp2
    rw [← hw0] at hb0 hX ⊢
    have h' := h.belowN hb0
    have hz0 : w0.heap.size = w.heap.size + 1 := by rw [hw0]; simp
    clear hw0
    go_loopw [22] (fun i wr => ∃ k : Nat, i = .int .i64 k ∧ k ≤ n ∧ Hid (chkT vars (prevT ts k) (ts.drop k) = B) ∧ Hid (∀ e, prevT ts k = some e → (e.length : Int) = vars) ∧ Below w0.heap.size w0 wr) (fun i _ => n - (intOf i).toNat)
    case atStart => exact ⟨0, rfl, by omega, HB.out, fun e he => (by cases he), Below.refl _ _⟩
    case round =>
      obtain ⟨k, rfl, hk, hBk, hpk, hb⟩ := hrel
      have hzr := hb.size
      by_cases hlt : k < n
      · obtain ⟨b1, off1, t, ea, en, ec, rfl, ht, t0, t1, hen, he1, he2, hea⟩ := h'.get hb (k := k) (by rw [← HN.out]; exact hlt)
        obtain ⟨w1, hw1⟩ : ∃ w1, w1 = wr.alloc (.cells #[.int .u64 (t.1.toNat : Int), .slice ea en ec] 92) := ⟨_, rfl⟩
        have hb1 : Below wr.heap.size wr w1 := by rw [hw1]; exact below_box _ _
        have hT : Blk w1 wr.heap.size 92 #[.int .u64 (t.1.toNat : Int), .slice ea en ec] := by rw [hw1]; exact Blk.new _ _ _
        have hB1 := hb.trans (hb1.mono hzr)
        have hbw : Below w.heap.size w w1 := hb0.trans (hB1.mono (by omega))
        have hz1 := hB1.size
        obtain ⟨x0, x1, x2, x3⟩ := (hX.belowN hB1).c2
        obtain ⟨y0, y1, y2, y3⟩ := hT.c2
        have hea1 := hea.belowN hb1
        have hB2 := hBk.out
        rw [drop_at ht.out, chkT] at hB2
        have hk0 : (0 : Int) ≤ (k : Int) := by omega
        have hk1 : (k : Int) < (n : Int) := by omega
        have hen6 : en ≤ 1000000 := by rw [hen.out]; exact HLL.out t (List.mem_of_getElem? ht.out)
        have HW1 := hide hw1
        clear hw1
        by_cases hc0 : t.1 = 0
        · have HBF : Hid (B = false) := by show B = false; rw [← hB2, hc0]; rfl
          have e1 : ((t.1.toNat : Int) == 0) = true := by rw [hc0]; rfl
          clear hB2 ht hc0
          go_wp2
          rw [← HW1.out]
          go_quiet (fail)
          go_wp2
          go_ret
          exact ⟨by rw [HBF.out]; rfl, hbw.trans (below_drawn _ _ _)⟩
        · have e1 : ((t.1.toNat : Int) == 0) = false := by
            simp only [beq_eq_false_iff_ne, ne_eq]
            intro q
            exact hc0 (UInt64.toNat_inj.1 (by simpa using q))
          have e2 : (t.1 != 0) = true := by simpa using hc0
          rw [e2, Bool.true_and] at hB2
          obtain ⟨Q, hQ⟩ : ∃ Q, rightT vars t.2 = Q := ⟨_, rfl⟩
          have HR := hide (fun (W : World) (k1 : Below w1.heap.size w1 W) => PRight_calls vars ea en ec t.2 hen.out W (hea1.belowN k1) hen6 Q hQ)
          rw [hQ] at hB2
          have HQ := hide hQ
          clear hc0 e2
          cases Q with
          | false =>
            have HBF : Hid (B = false) := by show B = false; rw [← hB2]; rfl
            clear hB2 ht hQ
            go_wp2
            rw [← HW1.out]
            go_quiet ((go_at_call 99; first | exact quietS (HR.out _ (below_drawn _ _ _)) rfl | exact quietSA (HR.out _ (below_drawn _ _ _)) rfl))
            go_wp2
            go_ret
            exact ⟨by rw [HBF.out]; rfl, hbw.trans (below_drawn _ _ _)⟩
          | true =>
            rw [Bool.true_and] at hB2
            have hlen := rightT_len hQ
            have HPS := hide (prevT_succ ht.out)
            rcases k with _ | j
            · rw [Nat.zero_mul, Nat.add_zero] at t0 t1
              have hB3 : chkT vars (some t.2) (ts.drop 1) = B := by rw [← hB2]; rfl
              have HB3 := hide hB3
              have HLE := hide hlen
              clear hB2 hB3 ht hQ hlen
              go_wp2
              rw [← HW1.out]
              go_quiet ((go_at_call 99; first | exact quietS (HR.out _ (below_drawn _ _ _)) rfl | exact quietSA (HR.out _ (below_drawn _ _ _)) rfl))
              go_wp2
              go_roundw
              case rel => exact ⟨1, by go_num, by omega, by show _ = _; rw [HPS.out]; exact HB3.out, fun e he => (by rw [HPS.out] at he; injection he with he; rw [← he]; exact HLE.out), hB1.trans (below_drawn _ _ _)⟩
              case measure => simp [intOf]; omega
            · obtain ⟨b2, off2, s, sa, sn, sc, hbs, hs, s0, s1, hsn, hs1, hs2, hsa⟩ := h'.get hB1 (k := j) (by rw [← HN.out]; omega)
              cases hbs
              have hP := prevT_succ hs.out
              have hls := hpk.out s.2 hP
              rw [hP] at hB2
              have hsn6 : sn ≤ 1000000 := by rw [hsn.out]; exact HLL.out s (List.mem_of_getElem? hs.out)
              obtain ⟨R, hR⟩ : ∃ R, - ordR s.2 t.2 = R := ⟨_, rfl⟩
              have hse : sn = en := by rw [hsn.out, hen.out]; omega
              have HO := hide (fun (W : World) (k1 : Below w1.heap.size w1 W) => Compare_calls sa ea sn sc ec s.2 t.2 hsn.out (by rw [hse, hen.out]) W (hsa.belowN k1) (hea1.belowN k1) hsn6 R hR)
              subst hse
              have hkk : (0 : Int) < (j : Int) + 1 := by omega
              have hj1 : (j : Int) < (n : Int) := by omega
              have hj0 : (0 : Int) ≤ (j : Int) := by omega
              by_cases hRn : ordR s.2 t.2 < 0
              · have hB3 : chkT vars (some t.2) (ts.drop (j + 1 + 1)) = B := by rw [← hB2]; simp [okPrev, hRn]
                have HB3 := hide hB3
                have HLE := hide hlen
                have hRn2 : ¬ R ≤ 0 := by omega
                clear hB2 hB3 ht hs hQ hlen hP hls hR hRn
                go_wp2
                rw [← HW1.out]
                go_quiet (first | (go_at_call 99; first | exact quietS (HR.out _ (below_drawn _ _ _)) rfl | exact quietSA (HR.out _ (below_drawn _ _ _)) rfl) | (go_at_call 100; first | exact quietS (HO.out _ (below_drawn _ _ _)) rfl | exact quietSA (HO.out _ (below_drawn _ _ _)) rfl))
                go_wp2
                go_roundw
                case rel => exact ⟨j + 1 + 1, by go_num, by omega, by show _ = _; rw [HPS.out]; exact HB3.out, fun e he => (by rw [HPS.out] at he; injection he with he; rw [← he]; exact HLE.out), hB1.trans (below_drawn _ _ _)⟩
                case measure => simp [intOf]; omega
              · have HBF : Hid (B = false) := by show B = false; rw [← hB2]; simp [okPrev, hRn]
                have hRn2 : R ≤ 0 := by omega
                clear hB2 ht hs hQ hlen hP hls hR hRn
                go_wp2
                rw [← HW1.out]
                go_quiet (first | (go_at_call 99; first | exact quietS (HR.out _ (below_drawn _ _ _)) rfl | exact quietSA (HR.out _ (below_drawn _ _ _)) rfl) | (go_at_call 100; first | exact quietS (HO.out _ (below_drawn _ _ _)) rfl | exact quietSA (HO.out _ (below_drawn _ _ _)) rfl))
                go_wp2
                go_ret
                exact ⟨by rw [HBF.out]; rfl, hbw.trans (below_drawn _ _ _)⟩
      · obtain rfl : k = n := by omega
        have hB2 := hBk.out
        rw [List.drop_eq_nil_of_le (by rw [← HN.out]; exact Nat.le_refl _), chkT] at hB2
        subst hB2
        have hbw : Below w.heap.size w wr := hb0.trans (hb.mono (by omega))
        go_wp2
        go_ret
        exact ⟨rfl, hbw⟩
end Go.Proofs.YtcamcnahkdiefaaGreat

/- Same of both sides. -/
namespace Go.Proofs.YtcamcnahkdiefaaGreat
set_option linter.unusedVariables false
set_option linter.unusedSimpArgs false
open Go.RowKit
end Go.Proofs.YtcamcnahkdiefaaGreat

/- Powers of words. -/
namespace Go.Proofs.YtcamcnahkdiefaaGreat
set_option linter.unusedVariables false
set_option linter.unusedSimpArgs false
open Go.RowKit
end Go.Proofs.YtcamcnahkdiefaaGreat

/- Eval of both sides. -/
namespace Go.Proofs.YtcamcnahkdiefaaGreat
set_option linter.unusedVariables false
set_option linter.unusedSimpArgs false
open Go.RowKit
end Go.Proofs.YtcamcnahkdiefaaGreat

/- Terms that a call makes; ref03.copied, ref03.merged. -/
namespace Go.Proofs.YtcamcnahkdiefaaGreat
set_option linter.unusedVariables false
set_option linter.unusedSimpArgs false
open Go.RowKit
theorem tyT : Ty Tryz.prog 40 92 TmH := Ty.of (z := .agg #[.int .u64 0, .slice none 0 0]) (size := 2) (bytes := 32) Tryz.underlying40 (by kernel_rfl) rfl (by decide) rfl
def AtTP (P : Nat → Prop) (w : World) (a : Option Addr) (ts : List Tm) : Prop := ∃ hs : List TmH, At w a hs ∧ hs.length = ts.length ∧ (∀ (i : Nat) (h : TmH) (t : Tm), hs[i]? = some h → ts[i]? = some t → TmH.of w h t) ∧ (ts ≠ [] → ∀ q, a.map (·.block) = some q → P q) ∧
  ∀ (i : Nat) (h : TmH) (t : Tm), hs[i]? = some h → ts[i]? = some t → t.2 ≠ [] → ∀ q, h.a.map (·.block) = some q → P q
theorem AtTP.at_ {P : Nat → Prop} {w : World} {a : Option Addr} {ts : List Tm} (h : AtTP P w a ts) : AtT w a ts := by
  obtain ⟨hs, h1, h2, h3, _, _⟩ := h
  exact ⟨hs, h1, h2, h3⟩
theorem AtT.any {w : World} {a : Option Addr} {ts : List Tm} (h : AtT w a ts) : AtTP (fun _ => True) w a ts := by
  obtain ⟨hs, h1, h2, h3⟩ := h
  exact ⟨hs, h1, h2, h3, fun _ _ _ => trivial, fun _ _ _ _ _ _ _ _ => trivial⟩
theorem AtTP.imp {P Q : Nat → Prop} {w : World} {a : Option Addr} {ts : List Tm} (h : AtTP P w a ts) (hi : ∀ q, P q → Q q) : AtTP Q w a ts := by
  obtain ⟨hs, h1, h2, h3, h4, h5⟩ := h
  exact ⟨hs, h1, h2, h3, fun k q e => hi q (h4 k q e), fun i y t e1 e2 k q e => hi q (h5 i y t e1 e2 k q e)⟩
theorem AtTP.belowN {P : Nat → Prop} {w w' : World} {a : Option Addr} {ts : List Tm} (h : AtTP P w a ts) (hb : Below w.heap.size w w') : AtTP P w' a ts := by
  obtain ⟨hs, h1, h2, h3, h4, h5⟩ := h
  exact ⟨hs, h1.belowN hb, h2, fun i y t e1 e2 => (h3 i y t e1 e2).belowN hb, h4, h5⟩
theorem AtTP.nil (P : Nat → Prop) (w : World) (a : Option Addr) : AtTP P w a [] := ⟨[], At.nil _ _, rfl, fun i h t e => by simp at e, fun h => absurd rfl h, fun i h t e => by simp at e⟩
theorem AtTP.take {P : Nat → Prop} {w : World} {a : Option Addr} {ts : List Tm} (h : AtTP P w a ts) (k : Nat) : AtTP P w a (ts.take k) := by
  obtain ⟨hs, h1, h2, h3, h4, h5⟩ := h
  have hx : ∀ (i : Nat) (y : TmH) (t : Tm), (hs.take k)[i]? = some y → (ts.take k)[i]? = some t → hs[i]? = some y ∧ ts[i]? = some t := by
    intro i y t e1 e2
    rw [List.getElem?_take] at e1 e2
    split at e1
    · rename_i hi; rw [if_pos hi] at e2; exact ⟨e1, e2⟩
    · cases e1
  exact ⟨hs.take k, h1.take k, by simp [h2], fun i y t e1 e2 => h3 i y t (hx i y t e1 e2).1 (hx i y t e1 e2).2, fun hne => h4 (by rintro rfl; simp at hne), fun i y t e1 e2 => h5 i y t (hx i y t e1 e2).1 (hx i y t e1 e2).2⟩
theorem AtTP.cut {P : Nat → Prop} {w : World} {a : Option Addr} {ts : List Tm} (h : AtTP P w a ts) {k c : Nat} (hc : ts.length ≤ c) : AtTP P w (cutA a k c 2) (ts.drop k) := by
  obtain ⟨hs, h1, h2, h3, h4, h5⟩ := h
  refine ⟨hs.drop k, h1.cut (by rw [h2]; exact hc), by simp [h2], fun i y t e1 e2 => ?_, fun hne q e => ?_, fun i y t e1 e2 => ?_⟩
  · rw [List.getElem?_drop] at e1 e2; exact h3 _ y t e1 e2
  · rw [cutA_block] at e; exact h4 (by rintro rfl; simp at hne) q e
  · rw [List.getElem?_drop] at e1 e2; exact h5 _ y t e1 e2
theorem AtTP.setCell {P : Nat → Prop} {w : World} {a : Option Addr} {ts : List Tm} (h : AtTP P w a ts) {g i : Nat} (u : Value) (hg : ¬ P g) : AtTP P (w.setCell ⟨g, i, none⟩ u) a ts := by
  obtain ⟨hs, h1, h2, h3, h4, h5⟩ := h
  have hgr := grown_setCell w g i u
  refine ⟨hs, h1.grown hgr (fun hne => ?_), h2, fun j y t e1 e2 => ?_, h4, h5⟩
  · have htn : ts ≠ [] := by rintro rfl; exact hne (List.eq_nil_of_length_eq_zero h2)
    obtain ⟨b, off, e, _⟩ := h1.lt hne
    refine .inl fun e' => hg (h4 htn g ?_)
    rw [← e']
  · obtain ⟨k1, k2, k3, k4, k5⟩ := h3 j y t e1 e2
    refine ⟨k1, k2, k3, k4, k5.grown hgr (fun hne => ?_)⟩
    refine .inl fun e' => hg (h5 j y t e1 e2 hne g ?_)
    rw [← e']
structure OwnT (P : Nat → Prop) (w : World) (B : Nat) (a : Option Addr) (c : Nat) (hs : List TmH) (ts : List Tm) : Prop where
  out : Own w B 92 a c hs
  len : hs.length = ts.length
  row : ∀ (i : Nat) (h : TmH) (t : Tm), hs[i]? = some h → ts[i]? = some t → TmH.of w h t
  far : ∀ (i : Nat) (h : TmH) (t : Tm), hs[i]? = some h → ts[i]? = some t → t.2 ≠ [] → h.a.map (·.block) ≠ a.map (·.block) ∧ ∀ q, h.a.map (·.block) = some q → P q
theorem OwnT.nil {P : Nat → Prop} {w : World} {B : Nat} {a : Option Addr} {c : Nat} (h : Own w B 92 a c ([] : List TmH)) : OwnT P w B a c [] [] := ⟨h, rfl, fun i h t hx => by simp at hx, fun i h t hx => by simp at hx⟩
theorem OwnT.belowN {P : Nat → Prop} {w w' : World} {B : Nat} {a : Option Addr} {c : Nat} {hs : List TmH} {ts : List Tm} (h : OwnT P w B a c hs ts) (hb : Below w.heap.size w w') : OwnT P w' B a c hs ts :=
  ⟨h.out.belowN hb, h.len, fun i y t h1 h2 => (h.row i y t h1 h2).belowN hb, h.far⟩
theorem OwnT.at_ {P : Nat → Prop} {w : World} {B : Nat} {a : Option Addr} {c : Nat} {hs : List TmH} {ts : List Tm} (h : OwnT P w B a c hs ts) : AtTP (fun q => P q ∨ B ≤ q) w a ts := ⟨hs, h.out.at_, h.len, h.row, fun _ q e => .inr (h.out.blk q e).1, fun i y t e1 e2 hne q e => .inl ((h.far i y t e1 e2 hne).2 q e)⟩
theorem OwnT.mono {P : Nat → Prop} {w : World} {B B' : Nat} {a : Option Addr} {c : Nat} {hs : List TmH} {ts : List Tm} (h : OwnT P w B a c hs ts) (hB : B' ≤ B) : OwnT P w B' a c hs ts := ⟨h.out.mono hB, h.len, h.row, h.far⟩
theorem OwnT.cap {P : Nat → Prop} {w : World} {B : Nat} {a : Option Addr} {c : Nat} {hs : List TmH} {ts : List Tm} (h : OwnT P w B a c hs ts) : ts.length ≤ c ∧ c ≤ 9223372036854775807 := by
  have := h.out.cap
  rw [h.len] at this
  exact ⟨this.1, Nat.le_trans this.2 (by decide)⟩
theorem TmH.of.grown {w w' : World} {h : TmH} {t : Tm} {row : Option Nat} (k : TmH.of w h t) (hg : w.grownBy w' row) (hr : t.2 ≠ [] → h.a.map (·.block) ≠ row) : TmH.of w' h t :=
  ⟨k.1, k.2.1, k.2.2.1, k.2.2.2.1, k.2.2.2.2.grown hg (fun hne => by
    obtain ⟨b, off, e, _⟩ := k.2.2.2.2.lt hne
    refine .inl fun e' => hr hne ?_
    rw [← e', e])⟩
theorem OwnT.push {P : Nat → Prop} {w w' : World} {B : Nat} {a a' : Option Addr} {c c' : Nat} {hs : List TmH} {ts : List Tm} {y : TmH} {t : Tm} (h : OwnT P w B a c hs ts) (own : Own w' B 92 a' c' (hs ++ [y])) (hg : w.grownBy w' (a.map (·.block)))
    (hm : a'.map (·.block) = a.map (·.block) ∨ ∃ g, a'.map (·.block) = some g ∧ w.heap.size ≤ g) (hrow : TmH.of w y t) (hfar : t.2 ≠ [] → y.a.map (·.block) ≠ a.map (·.block) ∧ ∀ q, y.a.map (·.block) = some q → P q) : OwnT P w' B a' c' (hs ++ [y]) (ts ++ [t]) := by
  have hlt : ∀ (z : TmH) (s : Tm), TmH.of w z s → s.2 ≠ [] → ∃ q, z.a.map (·.block) = some q ∧ q < w.heap.size := by
    intro z s hz hne
    obtain ⟨b, off, e, hb⟩ := hz.2.2.2.2.lt hne
    exact ⟨b, by rw [e]; rfl, hb⟩
  have h1 : ∀ (i : Nat) (z : TmH) (s : Tm), (hs ++ [y])[i]? = some z → (ts ++ [t])[i]? = some s → TmH.of w z s ∧ (s.2 ≠ [] → z.a.map (·.block) ≠ a.map (·.block) ∧ ∀ q, z.a.map (·.block) = some q → P q) := by
    intro i z s hz hs'
    by_cases hi : i < hs.length
    · rw [List.getElem?_append_left hi] at hz
      rw [List.getElem?_append_left (by rw [← h.len]; exact hi)] at hs'
      exact ⟨h.row i z s hz hs', h.far i z s hz hs'⟩
    · have hi' : i = hs.length := by
        have := (List.getElem?_eq_some_iff.1 hz).1
        simp at this
        omega
      subst hi'
      rw [List.getElem?_append_right (Nat.le_refl _), Nat.sub_self] at hz
      rw [h.len, List.getElem?_append_right (Nat.le_refl _), Nat.sub_self] at hs'
      simp at hz hs'
      subst hz hs'
      exact ⟨hrow, hfar⟩
  refine ⟨own, by simp [h.len], fun i z s hz hs' => ?_, fun i z s hz hs' hne => ?_⟩
  · obtain ⟨k1, k2⟩ := h1 i z s hz hs'
    exact k1.grown hg (fun hne => (k2 hne).1)
  · obtain ⟨k1, k2⟩ := h1 i z s hz hs'
    refine ⟨?_, (k2 hne).2⟩
    rcases hm with e | ⟨g, e, hg'⟩
    · rw [e]; exact (k2 hne).1
    · obtain ⟨q, e1, e2⟩ := hlt z s k1 hne
      rw [e, e1]
      intro e3; injection e3 with e3; omega
theorem AtTP.getF {P : Nat → Prop} {w wr : World} {a : Option Addr} {ts : List Tm} (h : AtTP P w a ts) (hb : Below w.heap.size w wr) {k : Nat} (hk : k < ts.length) :
    ∃ (b off : Nat) (t : Tm) (ea : Option Addr) (en ec : Nat), a = some ⟨b, off, none⟩ ∧ Hid (ts[k]? = some t) ∧ wr.cell? ⟨b, off + k * 2, none⟩ = some (.int .u64 (t.1.toNat : Int)) ∧ wr.cell? ⟨b, off + k * 2 + 1, none⟩ = some (.slice ea en ec) ∧ Hid (TmH.of wr ⟨t.1, ea, en, ec⟩ t) ∧ Hid (t.2 ≠ [] → ∃ q, ea.map (·.block) = some q ∧ q < w.heap.size ∧ P q) := by
  obtain ⟨hs, h1, h2, h3, _, h5⟩ := h
  obtain ⟨b, off, y, e, hy, hc⟩ := h1.get (k := k) (by omega)
  have ht : ts[k]? = some ts[k] := List.getElem?_eq_getElem hk
  have hq := h3 k y _ hy.out ht
  have c0 := hc 0 _ rfl
  have c1 := hc 1 _ rfl
  refine ⟨b, off, ts[k], y.a, y.n, y.k, e, hide ht, cell_later hb ?_, cell_later hb ?_, hide ?_, hide fun hne => ?_⟩
  · rw [← hq.1]; simpa [Flat.n] using c0
  · simpa [Flat.n] using c1
  · have := hq.belowN hb; exact ⟨rfl, this.2⟩
  · obtain ⟨b', off', e', hb'⟩ := hq.2.2.2.2.lt hne
    exact ⟨b', by rw [e']; rfl, hb', h5 k y _ hy.out ht hne b' (by rw [e']; rfl)⟩
theorem merge_len (a b : List Tm) : (mergeT a b).length ≤ a.length + b.length := by
  have hz : ∀ l : List Tm, (nzT l).length ≤ l.length := fun l => List.length_filter_le _ _
  fun_induction mergeT a b with
  | case1 b => have := hz b; simp; omega
  | case2 x a => have := hz (x :: a); simp only [List.length_cons, List.length_nil] at *; omega
  | case3 x a y b h ih => have := hz [x]; simp only [List.length_append, List.length_cons, List.length_nil] at *; omega
  | case4 x a y b h1 h2 ih => have := hz [y]; simp only [List.length_append, List.length_cons, List.length_nil] at *; omega
  | case5 x a y b h1 h2 ih => have := hz [(x.1 + y.1, x.2)]; simp only [List.length_append, List.length_cons, List.length_nil] at *; omega
end Go.Proofs.YtcamcnahkdiefaaGreat

/- ref03.merged, sorted, Make. -/
namespace Go.Proofs.YtcamcnahkdiefaaGreat
set_option linter.unusedVariables false
set_option linter.unusedSimpArgs false
open Go.RowKit
end Go.Proofs.YtcamcnahkdiefaaGreat

/- ref03.sorted. -/
namespace Go.Proofs.YtcamcnahkdiefaaGreat
set_option linter.unusedVariables false
set_option linter.unusedSimpArgs false
open Go.RowKit
structure TOut (P : Nat → Prop) (w : World) (a : Option Addr) (n c : Nat) (M : List Tm) : Prop where
  len : n = M.length
  cap : n ≤ c
  max : c ≤ 9223372036854775807
  at_ : AtTP P w a M
theorem TOut.belowN {P : Nat → Prop} {w w' : World} {a : Option Addr} {n c : Nat} {M : List Tm} (h : TOut P w a n c M) (hb : Below w.heap.size w w') : TOut P w' a n c M := ⟨h.len, h.cap, h.max, h.at_.belowN hb⟩
theorem TOut.imp {P Q : Nat → Prop} {w : World} {a : Option Addr} {n c : Nat} {M : List Tm} (h : TOut P w a n c M) (hi : ∀ q, P q → Q q) : TOut Q w a n c M := ⟨h.len, h.cap, h.max, h.at_.imp hi⟩
theorem TOut.setCell {P : Nat → Prop} {w : World} {a : Option Addr} {n c : Nat} {M : List Tm} (h : TOut P w a n c M) {g i : Nat} (u : Value) (hg : ¬ P g) : TOut P (w.setCell ⟨g, i, none⟩ u) a n c M := ⟨h.len, h.cap, h.max, h.at_.setCell u hg⟩
theorem TOut.nil (P : Nat → Prop) (w : World) : TOut P w none 0 0 [] := ⟨rfl, by decide, by decide, AtTP.nil _ _ _⟩
theorem OwnT.out_ {P : Nat → Prop} {w : World} {B : Nat} {a : Option Addr} {c : Nat} {hs : List TmH} {ts : List Tm} (h : OwnT P w B a c hs ts) {n : Nat} (hn : n = ts.length) : TOut (fun q => P q ∨ B ≤ q) w a n c ts := ⟨hn, by rw [hn]; exact h.cap.1, h.cap.2, h.at_⟩
theorem sort_len (l : List Tm) : (sortT l).length ≤ l.length := by
  fun_induction sortT l with
  | case1 l hl ih1 ih2 =>
    have := merge_len (sortT (l.take (l.length / 2))) (sortT (l.drop (l.length / 2)))
    rw [List.length_take] at ih1
    rw [List.length_drop] at ih2
    omega
  | case2 l hl => exact List.length_filter_le _ _
end Go.Proofs.YtcamcnahkdiefaaGreat

/- Several texts of mine in one file: Pp, Mp. -/
/- Plain: numbers by powers, in a map; its keys in falling order. -/
namespace Go.Proofs.YtcamcnahkdiefaaGreat
set_option linter.unusedVariables false
set_option linter.unusedSimpArgs false
open Go.Maps (has Tidy IsMap)
def two (n : Int) : List UInt8 := [UInt8.ofNat (n.toNat / 256), UInt8.ofNat (n.toNat % 256)]
def keyB (e : List Int) : List UInt8 := e.flatMap two
def InE (e : List Int) : Prop := ∀ n ∈ e, 0 ≤ n ∧ n ≤ 65535
theorem InE.head {n : Int} {e : List Int} (h : InE (n :: e)) : 0 ≤ n ∧ n ≤ 65535 := h n List.mem_cons_self
theorem InE.tail {n : Int} {e : List Int} (h : InE (n :: e)) : InE e := fun m hm => h m (List.mem_cons_of_mem _ hm)
theorem keyB_cons (n : Int) (e : List Int) : keyB (n :: e) = UInt8.ofNat (n.toNat / 256) :: UInt8.ofNat (n.toNat % 256) :: keyB e := rfl
theorem keyB_len (e : List Int) : (keyB e).length = 2 * e.length := by
  induction e with
  | nil => rfl
  | cons n e ih => rw [keyB_cons, List.length_cons, List.length_cons, ih, List.length_cons]; omega
theorem hi_nat {n : Int} (h : 0 ≤ n ∧ n ≤ 65535) : (UInt8.ofNat (n.toNat / 256)).toNat = n.toNat / 256 := by
  rw [UInt8.toNat_ofNat']; exact Nat.mod_eq_of_lt (by omega)
theorem lo_nat (n : Int) : (UInt8.ofNat (n.toNat % 256)).toNat = n.toNat % 256 := by
  rw [UInt8.toNat_ofNat']; exact Nat.mod_eq_of_lt (by omega)
theorem u8_eq_iff (a b : UInt8) : a = b ↔ a.toNat = b.toNat := UInt8.toNat_inj.symm
theorem keyB_lt : ∀ {e f : List Int}, InE e → InE f → e.length = f.length → ordR e f < 0 → keyB f < keyB e
  | [], [], _, _, _, h => by simp [ordR] at h
  | [], y :: ys, _, _, hl, _ => by simp at hl
  | x :: xs, [], _, _, hl, _ => by simp at hl
  | x :: xs, y :: ys, he, hf, hl, h => by
    rw [ordR] at h
    have h1 := he.head
    have h2 := hf.head
    rw [keyB_cons, keyB_cons, List.cons_lt_cons_iff, List.cons_lt_cons_iff, UInt8.lt_iff_toNat_lt, UInt8.lt_iff_toNat_lt, u8_eq_iff, u8_eq_iff, hi_nat h1, hi_nat h2, lo_nat, lo_nat]
    by_cases c1 : y < x
    · by_cases c2 : y.toNat / 256 < x.toNat / 256
      · exact .inl c2
      · exact .inr ⟨by omega, .inl (by omega)⟩
    · rw [if_neg c1] at h
      by_cases c2 : x < y
      · rw [if_pos c2] at h; omega
      · rw [if_neg c2] at h
        exact .inr ⟨by omega, .inr ⟨by omega, keyB_lt he.tail hf.tail (by simpa using hl) h⟩⟩
theorem keyB_inj : ∀ {e f : List Int}, InE e → InE f → keyB e = keyB f → e = f
  | [], [], _, _, _ => rfl
  | [], y :: ys, _, _, h => by simp [keyB, two] at h
  | x :: xs, [], _, _, h => by simp [keyB, two] at h
  | x :: xs, y :: ys, he, hf, h => by
    have h1 := he.head
    have h2 := hf.head
    rw [keyB_cons, keyB_cons] at h
    injection h with a1 a2
    injection a2 with a2 a3
    rw [u8_eq_iff, hi_nat h1, hi_nat h2] at a1
    rw [u8_eq_iff, lo_nat, lo_nat] at a2
    rw [show x = y by omega, keyB_inj he.tail hf.tail a3]
def powB : List UInt8 → List Int
  | a :: b :: r => ((a.toNat * 256 + b.toNat : Nat) : Int) :: powB r
  | _ => []
theorem powB_keyB : ∀ {e : List Int}, InE e → powB (keyB e) = e
  | [], _ => rfl
  | x :: xs, h => by
    have h1 := h.head
    rw [keyB_cons, powB, powB_keyB h.tail, hi_nat h1, lo_nat]
    congr 1
    omega
abbrev DMap := DataW Unit
abbrev zeroD : DMap := .lit (.int .u64 0)
structure HeapIs (n : Nat) (D : DMap) (l : List Tm) : Prop where
  at_ : ∀ e, e.length = n → InE e → D.atKey (.string (keyB e)) zeroD = .lit (.int .u64 ((lin (dlt e) l).toNat : Int))
  keys : ∀ x, has D (.string x) = true → ∃ e, e.length = n ∧ InE e ∧ x = keyB e
theorem HeapIs.nil (n : Nat) : HeapIs n (.map []) [] := ⟨fun e _ _ => rfl, fun x h => by simp [has] at h⟩
theorem lin_dlt_snoc (e : List Int) (l : List Tm) (t : Tm) : lin (dlt e) (l ++ [t]) = lin (dlt e) l + t.1 * dlt e t.2 := by
  rw [lin_append, lin, lin]; grind
theorem HeapIs.put {n : Nat} {D : DMap} {l : List Tm} (h : HeapIs n D l) (hm : IsMap D) {t : Tm} (hl : t.2.length = n) (hi : InE t.2) {c : UInt64} (hc : c = lin (dlt t.2) l + t.1) :
    HeapIs n (D.put (.string (keyB t.2)) (.lit (.int .u64 (c.toNat : Int)))) (l ++ [t]) := by
  refine ⟨fun e he1 he2 => ?_, fun x hx => ?_⟩
  · rw [lin_dlt_snoc]
    by_cases q : t.2 = e
    · subst q
      rw [Maps.atKey_put_same (k := .string (keyB t.2)) hm trivial, hc]
      have : dlt t.2 t.2 = 1 := by unfold dlt; rw [if_pos rfl]
      rw [this]
      congr 4
      grind
    · have q' : (Lit.string (keyB e)) ≠ .string (keyB t.2) := fun e' => by
        injection e' with e'
        exact q (keyB_inj he2 hi e').symm
      rw [Maps.atKey_put_other q', h.at_ e he1 he2]
      have : dlt e t.2 = 0 := by unfold dlt; rw [if_neg q]
      rw [this]
      congr 4
      grind
  · by_cases q : (Lit.string x) = .string (keyB t.2)
    · injection q with q
      exact ⟨t.2, hl, hi, q⟩
    · rw [Maps.has_put_other q] at hx
      exact h.keys x hx
def CollNZ (D : DMap) (left : Lit → Bool) (ss : List (List UInt8)) : Prop := ss.Nodup ∧ ∀ x, x ∈ ss ↔ (has D (.string x) = true ∧ left (.string x) = false ∧ D.atKey (.string x) zeroD ≠ zeroD)
theorem CollNZ.start (D : DMap) : CollNZ D (has D) [] := ⟨List.nodup_nil, fun x => ⟨fun h => by simp at h, fun h => by rw [h.1] at h; simp at h⟩⟩
theorem CollNZ.in_ {D : DMap} {left : Lit → Bool} {ss : List (List UInt8)} (h : CollNZ D left ss) {x : List UInt8} {c : Int} (hlk : left (.string x) = true) (hat : ∀ zd, D.atKey (.string x) zd = .lit (.int .u64 c)) (hc : c ≠ 0) :
    CollNZ D (fun z => left z && !z.sameKey (.string x)) (ss ++ [x]) := by
  have hx : x ∉ ss := fun hx => by have := ((h.2 x).1 hx).2.1; rw [hlk] at this; cases this
  refine ⟨List.nodup_append.2 ⟨h.1, by simp, fun a ha b hb e => ?_⟩, fun y => ?_⟩
  · rw [List.mem_singleton] at hb; subst hb; subst e; exact hx ha
  · rw [List.mem_append, List.mem_singleton, h.2 y]
    have hs : ((Lit.string y).sameKey (.string x)) = decide (y = x) := by simp only [Lit.sameKey]; by_cases q : y = x <;> simp [q]
    show _ ↔ _ ∧ (left (.string y) && !(Lit.string y).sameKey (.string x)) = false ∧ _
    rw [hs]
    by_cases q : y = x
    · subst q
      simp only [decide_true, Bool.not_true, Bool.and_false, true_and, or_true, true_iff]
      exact ⟨Maps.has_true_of_atKey hat, by rw [hat]; intro e; injection e with e; injection e with _ e; exact hc e⟩
    · simp only [q, decide_false, Bool.not_false, Bool.and_true, or_false]
theorem CollNZ.out {D : DMap} {left : Lit → Bool} {ss : List (List UInt8)} (h : CollNZ D left ss) {x : List UInt8} (hlk : left (.string x) = true) (hat : ∀ zd, D.atKey (.string x) zd = .lit (.int .u64 0)) :
    CollNZ D (fun z => left z && !z.sameKey (.string x)) ss := by
  refine ⟨h.1, fun y => ?_⟩
  rw [h.2 y]
  have hs : ((Lit.string y).sameKey (.string x)) = decide (y = x) := by simp only [Lit.sameKey]; by_cases q : y = x <;> simp [q]
  show _ ↔ _ ∧ (left (.string y) && !(Lit.string y).sameKey (.string x)) = false ∧ _
  rw [hs]
  by_cases q : y = x
  · subst q
    rw [hat]
    simp
  · simp only [q, decide_false, Bool.not_false, Bool.and_true]
def cOf (D : DMap) (x : List UInt8) : UInt64 := match D.atKey (.string x) zeroD with | .lit (.int _ c) => UInt64.ofNat c.toNat | _ => 0
def downK (ss : List (List UInt8)) : List (List UInt8) := (ss.mergeSort leB).reverse
def outT (D : DMap) (ss : List (List UInt8)) : List Tm := (downK ss).map fun x => (cOf D x, powB x)
theorem outT_len (D : DMap) (ss : List (List UInt8)) : (outT D ss).length = ss.length := by simp [outT, downK]
theorem HeapIs.cOf {n : Nat} {D : DMap} {l : List Tm} (h : HeapIs n D l) {e : List Int} (h1 : e.length = n) (h2 : InE e) : cOf D (keyB e) = lin (dlt e) l := by
  unfold Go.Proofs.YtcamcnahkdiefaaGreat.cOf
  rw [h.at_ e h1 h2]
  show UInt64.ofNat ((lin (dlt e) l).toNat : Int).toNat = _
  rw [Int.toNat_natCast, UInt64.ofNat_toNat]
theorem canon_uniq_d {n : Nat} : ∀ (a b : List Tm), Canon n a → Canon n b → (∀ e, lin (dlt e) a = lin (dlt e) b) → a = b
  | [], [], _, _, _ => rfl
  | [], y :: b, _, hb, h => by
    have := h y.2
    rw [lin_dlt_head hb] at this
    exact absurd this.symm (hb.nz y List.mem_cons_self)
  | x :: a, [], ha, _, h => by
    have := h x.2
    rw [lin_dlt_head ha] at this
    exact absurd this (ha.nz x List.mem_cons_self)
  | x :: a, y :: b, ha, hb, h => by
    have hx := ha.len.head
    have hy := hb.len.head
    rcases ordR_val x.2 y.2 with hc | hc | hc
    · have h1 := h x.2
      rw [lin_dlt_head ha, lin_dlt_out x.2 _ (far_ne hx hb (by omega))] at h1
      exact absurd h1 (ha.nz x List.mem_cons_self)
    · have e : x.2 = y.2 := ordR_eq (by rw [hx, hy]) hc
      have h1 := h x.2
      rw [lin_dlt_head ha, e, lin_dlt_head hb] at h1
      have exy : x = y := Prod.ext h1 e
      rw [exy, canon_uniq_d a b ha.tail hb.tail (fun F => by
        have h2 := h F
        rw [lin, lin, exy] at h2
        grind)]
    · have hc' : ordR y.2 x.2 < 0 := by rw [ordR_anti]; omega
      have h1 := h y.2
      rw [lin_dlt_head hb, lin_dlt_out y.2 _ (far_ne hy ha hc')] at h1
      exact absurd h1.symm (hb.nz y List.mem_cons_self)
theorem lin_dlt_mem {n : Nat} : ∀ {l : List Tm}, Canon n l → ∀ t ∈ l, lin (dlt t.2) l = t.1
  | [], _, t, ht => by simp at ht
  | x :: l, h, t, ht => by
    rcases List.mem_cons.1 ht with rfl | ht
    · exact lin_dlt_head h
    · have hne := srt_ne h t ht
      rw [lin, lin_dlt_mem h.tail t ht]
      unfold dlt
      rw [if_neg (fun e => hne e.symm)]
      grind
theorem downK_srt {ss : List (List UInt8)} (h : ss.Nodup) : (downK ss).Pairwise fun x y => y < x := by
  have tr : ∀ a b c : List UInt8, leB a b = true → leB b c = true → leB a c = true := fun a b c h1 h2 => by simp only [leB, decide_eq_true_eq] at *; exact List.le_trans h1 h2
  have tot : ∀ a b : List UInt8, (leB a b || leB b a) = true := fun a b => by simp only [leB, Bool.or_eq_true, decide_eq_true_eq]; exact List.le_total a b
  have h1 := List.pairwise_mergeSort tr tot ss
  have h2 : (ss.mergeSort leB).Nodup := (List.mergeSort_perm ss leB).nodup_iff.2 h
  unfold downK
  rw [List.pairwise_reverse]
  refine (h1.and h2).imp fun {a b} hab => ?_
  have h3 : a ≤ b := by have := hab.1; simpa [leB] using this
  have h4 : a ≠ b := hab.2
  rcases List.le_iff_lt_or_eq.1 h3 with q | q
  · exact q
  · exact absurd q h4
theorem mem_downK {ss : List (List UInt8)} {x : List UInt8} : x ∈ downK ss ↔ x ∈ ss := by
  unfold downK
  rw [List.mem_reverse]
  exact (List.mergeSort_perm ss leB).mem_iff
theorem ordR_of_lt {e f : List Int} (he : InE e) (hf : InE f) (hl : e.length = f.length) (h : keyB f < keyB e) : ordR e f < 0 := by
  rcases ordR_val e f with q | q | q
  · omega
  · rw [ordR_eq hl q] at h; exact absurd h (List.lt_irrefl _)
  · have h1 := keyB_lt hf he hl.symm (by rw [ordR_anti]; omega)
    exact absurd h (List.lt_asymm h1)
theorem heap_out {n : Nat} {D : DMap} {l : List Tm} {left : Lit → Bool} {ss : List (List UInt8)} (h : HeapIs n D l) (hl : LenT n l) (hi : ∀ t ∈ l, InE t.2) (hC : CollNZ D left ss) (hl0 : ∀ kl, left kl = false) : outT D ss = sortT l := by
  have hk : ∀ x ∈ ss, ∃ e, e.length = n ∧ InE e ∧ x = keyB e := fun x hx => h.keys x ((hC.2 x).1 hx).1
  have hin : ∀ e, e.length = n → InE e → (keyB e ∈ ss ↔ lin (dlt e) l ≠ 0) := by
    intro e h1 h2
    rw [hC.2 (keyB e)]
    constructor
    · intro q e0
      apply q.2.2
      rw [h.at_ e h1 h2, e0]; rfl
    · intro q
      refine ⟨?_, hl0 _, ?_⟩
      · refine Decidable.by_contra fun hn => q ?_
        have hn' : has D (.string (keyB e)) = false := by simpa using hn
        have h3 := h.at_ e h1 h2
        rw [Maps.atKey_of_not_has hn'] at h3
        injection h3 with h3
        injection h3 with _ h3
        exact UInt64.toNat_inj.1 (by simpa using h3.symm)
      · rw [h.at_ e h1 h2]
        intro q2
        injection q2 with q2
        injection q2 with _ q2
        exact q (UInt64.toNat_inj.1 (by simpa using q2))
  have hcan : Canon n (outT D ss) := by
    refine ⟨?_, fun t ht => ?_, fun t ht => ?_⟩
    · unfold SrtT outT
      rw [List.pairwise_map]
      refine (downK_srt hC.1).imp_of_mem fun {x y} hx hy hlt => ?_
      obtain ⟨e, e1, e2, rfl⟩ := hk x (mem_downK.1 hx)
      obtain ⟨f, f1, f2, rfl⟩ := hk y (mem_downK.1 hy)
      show ordR (powB (keyB e)) (powB (keyB f)) < 0
      rw [powB_keyB e2, powB_keyB f2]
      exact ordR_of_lt e2 f2 (by omega) hlt
    · obtain ⟨x, hx, rfl⟩ := List.mem_map.1 ht
      have hx' := mem_downK.1 hx
      obtain ⟨e, e1, e2, rfl⟩ := hk x hx'
      show cOf D (keyB e) ≠ 0
      rw [h.cOf e1 e2]
      exact (hin e e1 e2).1 hx'
    · obtain ⟨x, hx, rfl⟩ := List.mem_map.1 ht
      obtain ⟨e, e1, e2, rfl⟩ := hk x (mem_downK.1 hx)
      show (powB (keyB e)).length = n
      rw [powB_keyB e2, e1]
  refine canon_uniq_d _ _ hcan (sortT_canon l hl) fun e => ?_
  rw [lin_sort _ l hl]
  by_cases hv : e.length = n ∧ InE e
  · obtain ⟨e1, e2⟩ := hv
    by_cases hm : keyB e ∈ ss
    · have h4 := lin_dlt_mem hcan (cOf D (keyB e), powB (keyB e)) (List.mem_map.2 ⟨keyB e, mem_downK.2 hm, rfl⟩)
      rw [show (cOf D (keyB e), powB (keyB e)).2 = e from powB_keyB e2] at h4
      rw [h4]; exact h.cOf e1 e2
    · have h0 : lin (dlt e) l = 0 := Decidable.by_contra fun q => hm ((hin e e1 e2).2 q)
      rw [h0]
      refine lin_dlt_out e _ fun t ht q => hm ?_
      obtain ⟨x, hx, rfl⟩ := List.mem_map.1 ht
      obtain ⟨f, f1, f2, rfl⟩ := hk x (mem_downK.1 hx)
      have q' : powB (keyB f) = e := q
      rw [powB_keyB f2] at q'
      subst q'
      exact mem_downK.1 hx
  · rw [lin_dlt_out e l (fun t ht q => hv ⟨by rw [← q]; exact hl t ht, by rw [← q]; exact hi t ht⟩)]
    refine lin_dlt_out e _ fun t ht q => hv ?_
    obtain ⟨x, hx, rfl⟩ := List.mem_map.1 ht
    obtain ⟨f, f1, f2, rfl⟩ := hk x (mem_downK.1 hx)
    have q' : powB (keyB f) = e := q
    rw [powB_keyB f2] at q'
    subst q'
    exact ⟨f1, f2⟩
end Go.Proofs.YtcamcnahkdiefaaGreat

/- Maps at a step of a region that draws its order; maps of the call's own. -/
namespace Go.Proofs.YtcamcnahkdiefaaGreat
set_option linter.unusedVariables false
set_option linter.unusedSimpArgs false
open Go.RowKit Go.Maps
section
variable {H : Type} {P : Program} {ops : Array Oper} {o : Oper} {act : Act} {K : Act → World → Prop} {Q : Exit → Act → World → Prop} {E' : Prop}
end
instance : Flat UInt8 := ⟨1, fun x => [.int .u8 (x.toNat : Int)], fun _ => rfl, fun x u hu => by simp at hu; subst hu; rfl, by decide⟩
end Go.Proofs.YtcamcnahkdiefaaGreat
