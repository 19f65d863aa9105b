/- Several texts of mine in one file. -/
import Derived.Test.YtcamcnahkdiefaaGreatYMCaj
import Derived.Sort.KeysCollected
import Derived.Maps.Views
import Derived.Deep.RegionHeld3
import Derived.Maps.RangeWalk
import Derived.Maps.OwnOps
import Derived.Maps.OwnSet
import Derived.Test.YtcamcnahkdiefaaGreatYMCaa
import Derived.Sort.OwnSorted
import Derived.Test.YtcamcnahkdiefaaGreatYMCai
import Derived.Test.YtcamcnahkdiefaaGreatYMCac
import Derived.StringKeys
import Derived.Test.YtcamcnahkdiefaaGreatYMCah
/- Several texts of mine in one file: Pp, Mp. -/
/- Plain: numbers by powers, in a map; its keys in falling order. -/
namespace Go.Proofs.YtcamcnahkdiefaaGreat
set_option linter.unusedVariables false
set_option linter.unusedSimpArgs false
open Go.Maps (has Tidy IsMap)
def two (n : Int) : List UInt8 := [UInt8.ofNat (n.toNat / 256), UInt8.ofNat (n.toNat % 256)]
def keyB (e : List Int) : List UInt8 := e.flatMap two
def InE (e : List Int) : Prop := ∀ n ∈ e, 0 ≤ n ∧ n ≤ 65535
theorem InE.head {n : Int} {e : List Int} (h : InE (n :: e)) : 0 ≤ n ∧ n ≤ 65535 := h n List.mem_cons_self
theorem InE.tail {n : Int} {e : List Int} (h : InE (n :: e)) : InE e := fun m hm => h m (List.mem_cons_of_mem _ hm)
theorem keyB_cons (n : Int) (e : List Int) : keyB (n :: e) = UInt8.ofNat (n.toNat / 256) :: UInt8.ofNat (n.toNat % 256) :: keyB e := rfl
theorem keyB_len (e : List Int) : (keyB e).length = 2 * e.length := by
  induction e with
  | nil => rfl
  | cons n e ih => rw [keyB_cons, List.length_cons, List.length_cons, ih, List.length_cons]; omega
theorem hi_nat {n : Int} (h : 0 ≤ n ∧ n ≤ 65535) : (UInt8.ofNat (n.toNat / 256)).toNat = n.toNat / 256 := by
  rw [UInt8.toNat_ofNat']; exact Nat.mod_eq_of_lt (by omega)
theorem lo_nat (n : Int) : (UInt8.ofNat (n.toNat % 256)).toNat = n.toNat % 256 := by
  rw [UInt8.toNat_ofNat']; exact Nat.mod_eq_of_lt (by omega)
theorem u8_eq_iff (a b : UInt8) : a = b ↔ a.toNat = b.toNat := UInt8.toNat_inj.symm
theorem keyB_lt : ∀ {e f : List Int}, InE e → InE f → e.length = f.length → ordR e f < 0 → keyB f < keyB e
  | [], [], _, _, _, h => by simp [ordR] at h
  | [], y :: ys, _, _, hl, _ => by simp at hl
  | x :: xs, [], _, _, hl, _ => by simp at hl
  | x :: xs, y :: ys, he, hf, hl, h => by
    rw [ordR] at h
    have h1 := he.head
    have h2 := hf.head
    rw [keyB_cons, keyB_cons, List.cons_lt_cons_iff, List.cons_lt_cons_iff, UInt8.lt_iff_toNat_lt, UInt8.lt_iff_toNat_lt, u8_eq_iff, u8_eq_iff, hi_nat h1, hi_nat h2, lo_nat, lo_nat]
    by_cases c1 : y < x
    · by_cases c2 : y.toNat / 256 < x.toNat / 256
      · exact .inl c2
      · exact .inr ⟨by omega, .inl (by omega)⟩
    · rw [if_neg c1] at h
      by_cases c2 : x < y
      · rw [if_pos c2] at h; omega
      · rw [if_neg c2] at h
        exact .inr ⟨by omega, .inr ⟨by omega, keyB_lt he.tail hf.tail (by simpa using hl) h⟩⟩
theorem keyB_inj : ∀ {e f : List Int}, InE e → InE f → keyB e = keyB f → e = f
  | [], [], _, _, _ => rfl
  | [], y :: ys, _, _, h => by simp [keyB, two] at h
  | x :: xs, [], _, _, h => by simp [keyB, two] at h
  | x :: xs, y :: ys, he, hf, h => by
    have h1 := he.head
    have h2 := hf.head
    rw [keyB_cons, keyB_cons] at h
    injection h with a1 a2
    injection a2 with a2 a3
    rw [u8_eq_iff, hi_nat h1, hi_nat h2] at a1
    rw [u8_eq_iff, lo_nat, lo_nat] at a2
    rw [show x = y by omega, keyB_inj he.tail hf.tail a3]
def powB : List UInt8 → List Int
  | a :: b :: r => ((a.toNat * 256 + b.toNat : Nat) : Int) :: powB r
  | _ => []
theorem powB_keyB : ∀ {e : List Int}, InE e → powB (keyB e) = e
  | [], _ => rfl
  | x :: xs, h => by
    have h1 := h.head
    rw [keyB_cons, powB, powB_keyB h.tail, hi_nat h1, lo_nat]
    congr 1
    omega
abbrev DMap := DataW Unit
abbrev zeroD : DMap := .lit (.int .u64 0)
structure HeapIs (n : Nat) (D : DMap) (l : List Tm) : Prop where
  at_ : ∀ e, e.length = n → InE e → D.atKey (.string (keyB e)) zeroD = .lit (.int .u64 ((lin (dlt e) l).toNat : Int))
  keys : ∀ x, has D (.string x) = true → ∃ e, e.length = n ∧ InE e ∧ x = keyB e
theorem HeapIs.nil (n : Nat) : HeapIs n (.map []) [] := ⟨fun e _ _ => rfl, fun x h => by simp [has] at h⟩
theorem lin_dlt_snoc (e : List Int) (l : List Tm) (t : Tm) : lin (dlt e) (l ++ [t]) = lin (dlt e) l + t.1 * dlt e t.2 := by
  rw [lin_append, lin, lin]; grind
theorem HeapIs.put {n : Nat} {D : DMap} {l : List Tm} (h : HeapIs n D l) (hm : IsMap D) {t : Tm} (hl : t.2.length = n) (hi : InE t.2) {c : UInt64} (hc : c = lin (dlt t.2) l + t.1) :
    HeapIs n (D.put (.string (keyB t.2)) (.lit (.int .u64 (c.toNat : Int)))) (l ++ [t]) := by
  refine ⟨fun e he1 he2 => ?_, fun x hx => ?_⟩
  · rw [lin_dlt_snoc]
    by_cases q : t.2 = e
    · subst q
      rw [Maps.atKey_put_same (k := .string (keyB t.2)) hm trivial, hc]
      have : dlt t.2 t.2 = 1 := by unfold dlt; rw [if_pos rfl]
      rw [this]
      congr 4
      grind
    · have q' : (Lit.string (keyB e)) ≠ .string (keyB t.2) := fun e' => by
        injection e' with e'
        exact q (keyB_inj he2 hi e').symm
      rw [Maps.atKey_put_other q', h.at_ e he1 he2]
      have : dlt e t.2 = 0 := by unfold dlt; rw [if_neg q]
      rw [this]
      congr 4
      grind
  · by_cases q : (Lit.string x) = .string (keyB t.2)
    · injection q with q
      exact ⟨t.2, hl, hi, q⟩
    · rw [Maps.has_put_other q] at hx
      exact h.keys x hx
def CollNZ (D : DMap) (left : Lit → Bool) (ss : List (List UInt8)) : Prop := ss.Nodup ∧ ∀ x, x ∈ ss ↔ (has D (.string x) = true ∧ left (.string x) = false ∧ D.atKey (.string x) zeroD ≠ zeroD)
theorem CollNZ.start (D : DMap) : CollNZ D (has D) [] := ⟨List.nodup_nil, fun x => ⟨fun h => by simp at h, fun h => by rw [h.1] at h; simp at h⟩⟩
theorem CollNZ.in_ {D : DMap} {left : Lit → Bool} {ss : List (List UInt8)} (h : CollNZ D left ss) {x : List UInt8} {c : Int} (hlk : left (.string x) = true) (hat : ∀ zd, D.atKey (.string x) zd = .lit (.int .u64 c)) (hc : c ≠ 0) :
    CollNZ D (fun z => left z && !z.sameKey (.string x)) (ss ++ [x]) := by
  have hx : x ∉ ss := fun hx => by have := ((h.2 x).1 hx).2.1; rw [hlk] at this; cases this
  refine ⟨List.nodup_append.2 ⟨h.1, by simp, fun a ha b hb e => ?_⟩, fun y => ?_⟩
  · rw [List.mem_singleton] at hb; subst hb; subst e; exact hx ha
  · rw [List.mem_append, List.mem_singleton, h.2 y]
    have hs : ((Lit.string y).sameKey (.string x)) = decide (y = x) := by simp only [Lit.sameKey]; by_cases q : y = x <;> simp [q]
    show _ ↔ _ ∧ (left (.string y) && !(Lit.string y).sameKey (.string x)) = false ∧ _
    rw [hs]
    by_cases q : y = x
    · subst q
      simp only [decide_true, Bool.not_true, Bool.and_false, true_and, or_true, true_iff]
      exact ⟨Maps.has_true_of_atKey hat, by rw [hat]; intro e; injection e with e; injection e with _ e; exact hc e⟩
    · simp only [q, decide_false, Bool.not_false, Bool.and_true, or_false]
theorem CollNZ.out {D : DMap} {left : Lit → Bool} {ss : List (List UInt8)} (h : CollNZ D left ss) {x : List UInt8} (hlk : left (.string x) = true) (hat : ∀ zd, D.atKey (.string x) zd = .lit (.int .u64 0)) :
    CollNZ D (fun z => left z && !z.sameKey (.string x)) ss := by
  refine ⟨h.1, fun y => ?_⟩
  rw [h.2 y]
  have hs : ((Lit.string y).sameKey (.string x)) = decide (y = x) := by simp only [Lit.sameKey]; by_cases q : y = x <;> simp [q]
  show _ ↔ _ ∧ (left (.string y) && !(Lit.string y).sameKey (.string x)) = false ∧ _
  rw [hs]
  by_cases q : y = x
  · subst q
    rw [hat]
    simp
  · simp only [q, decide_false, Bool.not_false, Bool.and_true]
def cOf (D : DMap) (x : List UInt8) : UInt64 := match D.atKey (.string x) zeroD with | .lit (.int _ c) => UInt64.ofNat c.toNat | _ => 0
def downK (ss : List (List UInt8)) : List (List UInt8) := (ss.mergeSort leB).reverse
def outT (D : DMap) (ss : List (List UInt8)) : List Tm := (downK ss).map fun x => (cOf D x, powB x)
theorem outT_len (D : DMap) (ss : List (List UInt8)) : (outT D ss).length = ss.length := by simp [outT, downK]
theorem HeapIs.cOf {n : Nat} {D : DMap} {l : List Tm} (h : HeapIs n D l) {e : List Int} (h1 : e.length = n) (h2 : InE e) : cOf D (keyB e) = lin (dlt e) l := by
  unfold Go.Proofs.YtcamcnahkdiefaaGreat.cOf
  rw [h.at_ e h1 h2]
  show UInt64.ofNat ((lin (dlt e) l).toNat : Int).toNat = _
  rw [Int.toNat_natCast, UInt64.ofNat_toNat]
theorem canon_uniq_d {n : Nat} : ∀ (a b : List Tm), Canon n a → Canon n b → (∀ e, lin (dlt e) a = lin (dlt e) b) → a = b
  | [], [], _, _, _ => rfl
  | [], y :: b, _, hb, h => by
    have := h y.2
    rw [lin_dlt_head hb] at this
    exact absurd this.symm (hb.nz y List.mem_cons_self)
  | x :: a, [], ha, _, h => by
    have := h x.2
    rw [lin_dlt_head ha] at this
    exact absurd this (ha.nz x List.mem_cons_self)
  | x :: a, y :: b, ha, hb, h => by
    have hx := ha.len.head
    have hy := hb.len.head
    rcases ordR_val x.2 y.2 with hc | hc | hc
    · have h1 := h x.2
      rw [lin_dlt_head ha, lin_dlt_out x.2 _ (far_ne hx hb (by omega))] at h1
      exact absurd h1 (ha.nz x List.mem_cons_self)
    · have e : x.2 = y.2 := ordR_eq (by rw [hx, hy]) hc
      have h1 := h x.2
      rw [lin_dlt_head ha, e, lin_dlt_head hb] at h1
      have exy : x = y := Prod.ext h1 e
      rw [exy, canon_uniq_d a b ha.tail hb.tail (fun F => by
        have h2 := h F
        rw [lin, lin, exy] at h2
        grind)]
    · have hc' : ordR y.2 x.2 < 0 := by rw [ordR_anti]; omega
      have h1 := h y.2
      rw [lin_dlt_head hb, lin_dlt_out y.2 _ (far_ne hy ha hc')] at h1
      exact absurd h1.symm (hb.nz y List.mem_cons_self)
theorem lin_dlt_mem {n : Nat} : ∀ {l : List Tm}, Canon n l → ∀ t ∈ l, lin (dlt t.2) l = t.1
  | [], _, t, ht => by simp at ht
  | x :: l, h, t, ht => by
    rcases List.mem_cons.1 ht with rfl | ht
    · exact lin_dlt_head h
    · have hne := srt_ne h t ht
      rw [lin, lin_dlt_mem h.tail t ht]
      unfold dlt
      rw [if_neg (fun e => hne e.symm)]
      grind
theorem downK_srt {ss : List (List UInt8)} (h : ss.Nodup) : (downK ss).Pairwise fun x y => y < x := by
  have tr : ∀ a b c : List UInt8, leB a b = true → leB b c = true → leB a c = true := fun a b c h1 h2 => by simp only [leB, decide_eq_true_eq] at *; exact List.le_trans h1 h2
  have tot : ∀ a b : List UInt8, (leB a b || leB b a) = true := fun a b => by simp only [leB, Bool.or_eq_true, decide_eq_true_eq]; exact List.le_total a b
  have h1 := List.pairwise_mergeSort tr tot ss
  have h2 : (ss.mergeSort leB).Nodup := (List.mergeSort_perm ss leB).nodup_iff.2 h
  unfold downK
  rw [List.pairwise_reverse]
  refine (h1.and h2).imp fun {a b} hab => ?_
  have h3 : a ≤ b := by have := hab.1; simpa [leB] using this
  have h4 : a ≠ b := hab.2
  rcases List.le_iff_lt_or_eq.1 h3 with q | q
  · exact q
  · exact absurd q h4
theorem mem_downK {ss : List (List UInt8)} {x : List UInt8} : x ∈ downK ss ↔ x ∈ ss := by
  unfold downK
  rw [List.mem_reverse]
  exact (List.mergeSort_perm ss leB).mem_iff
theorem ordR_of_lt {e f : List Int} (he : InE e) (hf : InE f) (hl : e.length = f.length) (h : keyB f < keyB e) : ordR e f < 0 := by
  rcases ordR_val e f with q | q | q
  · omega
  · rw [ordR_eq hl q] at h; exact absurd h (List.lt_irrefl _)
  · have h1 := keyB_lt hf he hl.symm (by rw [ordR_anti]; omega)
    exact absurd h (List.lt_asymm h1)
theorem heap_out {n : Nat} {D : DMap} {l : List Tm} {left : Lit → Bool} {ss : List (List UInt8)} (h : HeapIs n D l) (hl : LenT n l) (hi : ∀ t ∈ l, InE t.2) (hC : CollNZ D left ss) (hl0 : ∀ kl, left kl = false) : outT D ss = sortT l := by
  have hk : ∀ x ∈ ss, ∃ e, e.length = n ∧ InE e ∧ x = keyB e := fun x hx => h.keys x ((hC.2 x).1 hx).1
  have hin : ∀ e, e.length = n → InE e → (keyB e ∈ ss ↔ lin (dlt e) l ≠ 0) := by
    intro e h1 h2
    rw [hC.2 (keyB e)]
    constructor
    · intro q e0
      apply q.2.2
      rw [h.at_ e h1 h2, e0]; rfl
    · intro q
      refine ⟨?_, hl0 _, ?_⟩
      · refine Decidable.by_contra fun hn => q ?_
        have hn' : has D (.string (keyB e)) = false := by simpa using hn
        have h3 := h.at_ e h1 h2
        rw [Maps.atKey_of_not_has hn'] at h3
        injection h3 with h3
        injection h3 with _ h3
        exact UInt64.toNat_inj.1 (by simpa using h3.symm)
      · rw [h.at_ e h1 h2]
        intro q2
        injection q2 with q2
        injection q2 with _ q2
        exact q (UInt64.toNat_inj.1 (by simpa using q2))
  have hcan : Canon n (outT D ss) := by
    refine ⟨?_, fun t ht => ?_, fun t ht => ?_⟩
    · unfold SrtT outT
      rw [List.pairwise_map]
      refine (downK_srt hC.1).imp_of_mem fun {x y} hx hy hlt => ?_
      obtain ⟨e, e1, e2, rfl⟩ := hk x (mem_downK.1 hx)
      obtain ⟨f, f1, f2, rfl⟩ := hk y (mem_downK.1 hy)
      show ordR (powB (keyB e)) (powB (keyB f)) < 0
      rw [powB_keyB e2, powB_keyB f2]
      exact ordR_of_lt e2 f2 (by omega) hlt
    · obtain ⟨x, hx, rfl⟩ := List.mem_map.1 ht
      have hx' := mem_downK.1 hx
      obtain ⟨e, e1, e2, rfl⟩ := hk x hx'
      show cOf D (keyB e) ≠ 0
      rw [h.cOf e1 e2]
      exact (hin e e1 e2).1 hx'
    · obtain ⟨x, hx, rfl⟩ := List.mem_map.1 ht
      obtain ⟨e, e1, e2, rfl⟩ := hk x (mem_downK.1 hx)
      show (powB (keyB e)).length = n
      rw [powB_keyB e2, e1]
  refine canon_uniq_d _ _ hcan (sortT_canon l hl) fun e => ?_
  rw [lin_sort _ l hl]
  by_cases hv : e.length = n ∧ InE e
  · obtain ⟨e1, e2⟩ := hv
    by_cases hm : keyB e ∈ ss
    · have h4 := lin_dlt_mem hcan (cOf D (keyB e), powB (keyB e)) (List.mem_map.2 ⟨keyB e, mem_downK.2 hm, rfl⟩)
      rw [show (cOf D (keyB e), powB (keyB e)).2 = e from powB_keyB e2] at h4
      rw [h4]; exact h.cOf e1 e2
    · have h0 : lin (dlt e) l = 0 := Decidable.by_contra fun q => hm ((hin e e1 e2).2 q)
      rw [h0]
      refine lin_dlt_out e _ fun t ht q => hm ?_
      obtain ⟨x, hx, rfl⟩ := List.mem_map.1 ht
      obtain ⟨f, f1, f2, rfl⟩ := hk x (mem_downK.1 hx)
      have q' : powB (keyB f) = e := q
      rw [powB_keyB f2] at q'
      subst q'
      exact mem_downK.1 hx
  · rw [lin_dlt_out e l (fun t ht q => hv ⟨by rw [← q]; exact hl t ht, by rw [← q]; exact hi t ht⟩)]
    refine lin_dlt_out e _ fun t ht q => hv ?_
    obtain ⟨x, hx, rfl⟩ := List.mem_map.1 ht
    obtain ⟨f, f1, f2, rfl⟩ := hk x (mem_downK.1 hx)
    have q' : powB (keyB f) = e := q
    rw [powB_keyB f2] at q'
    subst q'
    exact ⟨f1, f2⟩
end Go.Proofs.YtcamcnahkdiefaaGreat

/- Maps at a step of a region that draws its order; maps of the call's own. -/
namespace Go.Proofs.YtcamcnahkdiefaaGreat
set_option linter.unusedVariables false
set_option linter.unusedSimpArgs false
open Go.RowKit Go.Maps
section
variable {H : Type} {P : Program} {ops : Array Oper} {o : Oper} {act : Act} {K : Act → World → Prop} {Q : Exit → Act → World → Prop} {E' : Prop}
end
instance : Flat UInt8 := ⟨1, fun x => [.int .u8 (x.toNat : Int)], fun _ => rfl, fun x u hu => by simp at hu; subst hu; rfl, by decide⟩
end Go.Proofs.YtcamcnahkdiefaaGreat

/- Several texts of mine in one file: Ss, Pq, Pj, Pr, Rg3, Ps. -/
/- Strings in a slice of the call's own, sorted and turned round by the library. -/
namespace Go.Proofs.YtcamcnahkdiefaaGreat
set_option linter.unusedVariables false
set_option linter.unusedSimpArgs false
open Go.RowKit Go.Sort
instance : Flat (List UInt8) := ⟨1, fun x => [encStr x], fun _ => rfl, fun x u hu => by simp at hu; subst hu; rfl, by decide⟩
theorem flat_str (ss : List (List UInt8)) : ss.flatMap Flat.enc = ss.map encStr := by
  induction ss with
  | nil => rfl
  | cons x ss ih => rw [List.flatMap_cons, List.map_cons, ih]; rfl
theorem Own.str {w : World} {B : Nat} {E : TypeId} {a : Option Addr} {c : Nat} {ss : List (List UInt8)} (h : Own w B E a c ss) : w.ownsRow B E 1 (.slice a ss.length c) ss.length (ss.map encStr) := by
  unfold Own at h; rw [flat_str] at h; exact h
theorem Own.ofStr {w : World} {B : Nat} {E : TypeId} {a : Option Addr} {c : Nat} {ss : List (List UInt8)} (h : w.ownsRow B E 1 (.slice a ss.length c) ss.length (ss.map encStr)) : Own w B E a c ss := by
  unfold Own; rw [flat_str]; exact h
theorem Len64_zero (w : World) : Calls Tryz.prog 181 #[.int .u64 0] w fun e w' => e = .returned (.int .i64 0) ∧ w' = w := by
  have e : Lib.len8 0 = 0 := by kernel_rfl
  go_enter Tryz.func181, Tryz.ntmps181
  go_wp2
  go_ret
  exact ⟨by simp [e], rfl⟩
theorem Len_zero (w : World) : Calls Tryz.prog 155 #[.int .u64 0] w fun e w' => e = .returned (.int .i64 0) ∧ w' = w := by
  go_enter Tryz.func155, Tryz.ntmps155
  go_wp2_with (go_at_call 181; refine (Len64_zero _).mono ?_; rintro e w' ⟨rfl, rfl⟩)
  go_ret
  exact ⟨rfl, rfl⟩
theorem Insert_nil (p : Option Addr) (cap : Nat) (w : World) : Calls Tryz.prog 171 #[.slice p 0 cap, .int .i64 0, .int .i64 0] w fun e w' => e = .returned (.tuple #[]) ∧ w' = w := by
  go_enter Tryz.func171, Tryz.ntmps171
  go_wp2
  refine wp_loop_rounds 1 ?_
  rw [rounds_succ]
  go_wp2
  go_end0
  exact ⟨rfl, rfl⟩
set_option maxRecDepth 100000 in
theorem Pdq_nil (p : Option Addr) (cap : Nat) (w : World) : Calls Tryz.prog 154 #[.slice p 0 cap, .int .i64 0, .int .i64 0, .int .i64 0] w fun e w' => e = .returned (.tuple #[]) ∧ w' = w := by
  go_enter Tryz.func154, Tryz.ntmps154
  go_wp2
  refine wp_loop_rounds 1 ?_
  rw [rounds_succ]
  go_wp2_with (first | (go_at_call 171; refine (Insert_nil p cap _).mono ?_; rintro e w' ⟨rfl, rfl⟩))
  refine bodyPost_ret (results_none rfl _ _ _) rfl ?_
  exact ⟨rfl, rfl⟩
set_option maxRecDepth 100000 in
theorem Sort_nil (p : Option Addr) (cap : Nat) (w : World) : Calls Tryz.prog 120 #[.slice p 0 cap] w fun e w' => e = .returned (.tuple #[]) ∧ w' = w := by
  go_enter Tryz.func120, Tryz.ntmps120
  go_wp2_with (first
    | (go_at_call 155; refine (Len_zero _).mono ?_; rintro e w' ⟨rfl, rfl⟩)
    | (go_at_call 154; refine (Pdq_nil p cap _).mono ?_; rintro e w' ⟨rfl, rfl⟩))
  go_end0
  exact ⟨rfl, rfl⟩
theorem SortS_calls (w : World) (B : Nat) (E : TypeId) (a : Option Addr) (n c : Nat) (ss : List (List UInt8)) (hn : n = ss.length) (h : Own w B E a c ss) (hl : n ≤ 1000000000) :
    Calls Tryz.prog 120 #[.slice a n c] w fun v w' => v = .returned (.tuple #[]) ∧ Own w' B E a c (ss.mergeSort leB) ∧ w.grownBy w' (a.map (·.block)) := by
  subst hn
  have hcap := h.cap
  rcases h.str.2 with ⟨h0, _⟩ | ⟨g, cap, cur, h0, hbase, hb, h1, h2, h3, h4⟩
  · injection h0 with e1 e2 e3
    subst e1 e3
    have hs : ss = [] := List.eq_nil_of_length_eq_zero e2
    subst hs
    refine (Sort_nil none 0 w).mono ?_
    rintro e w' ⟨rfl, rfl⟩
    exact ⟨rfl, by simpa using h, grown_drewN w' 0 _⟩
  · injection h0 with e1 e2 e3
    subst e1 e3
    have hH : Holds encStr w g 0 ss.toArray := holds_of_block hb (by simpa using h4)
    have hgl : g < w.heap.size := (Array.getElem?_eq_some_iff.1 hb).1
    have hmx : ss.length < 4611686018427387904 := by omega
    refine (Any.slices_Sort_string lays190 g 0 c ss w hH hgl hmx).mono ?_
    rintro e w' ⟨rfl, nn, os, rfl⟩
    refine ⟨rfl, Own.ofStr ?_, grownBy_sorted _⟩
    have := ownsRow_sorted (n := nn) (os := os) (ts := ss.mergeSort leB) (by simp) hbase hb h1 h2 h3
    simpa using this
theorem RevS_calls (w : World) (B : Nat) (E : TypeId) (a : Option Addr) (n c : Nat) (ss : List (List UInt8)) (hn : n = ss.length) (h : Own w B E a c ss) :
    Calls Tryz.prog 121 #[.slice a n c] w fun v w' => v = .returned (.tuple #[]) ∧ Own w' B E a c ss.reverse ∧ w.grownBy w' (a.map (·.block)) := by
  subst hn
  have hcap := h.cap
  rcases h.str.2 with ⟨h0, _⟩ | ⟨g, cap, cur, h0, hbase, hb, h1, h2, h3, h4⟩
  · injection h0 with e1 e2 e3
    subst e1 e3
    have hs : ss = [] := List.eq_nil_of_length_eq_zero e2
    subst hs
    refine (Any.slices_Reverse_string_empty lays17 none 0 w).mono ?_
    rintro e w' ⟨rfl, rfl⟩
    exact ⟨rfl, by simpa using h, grown_drewN w' 0 _⟩
  · injection h0 with e1 e2 e3
    subst e1 e3
    have hH : Holds encStr w g 0 ss.toArray := holds_of_block hb (by simpa using h4)
    have hmx : ss.length ≤ 9223372036854775807 := Nat.le_trans (Nat.le_trans hcap.1 hcap.2) (by unfold maxLen; decide)
    refine (Any.slices_Reverse_string lays17 g 0 c ss w hH hmx).mono ?_
    rintro e w' ⟨rfl, nn, rfl⟩
    have hz : ∀ W : World, grow W #[] = W := fun W => by simp [grow]
    rw [← hz (putRow encStr (Sort.ahead w nn) g 0 ss.reverse.toArray)]
    refine ⟨rfl, Own.ofStr ?_, grownBy_sorted _⟩
    have := ownsRow_sorted (n := nn) (os := #[]) (ts := ss.reverse) (by simp) hbase hb h1 h2 h3
    simpa using this
end Go.Proofs.YtcamcnahkdiefaaGreat

/- Powers as a text, and back. -/
namespace Go.Proofs.YtcamcnahkdiefaaGreat
set_option linter.unusedVariables false
set_option linter.unusedSimpArgs false
open Go.RowKit
theorem tyB8 : Ty Tryz.prog 235 5 UInt8 := Ty.of (z := .int .u8 0) (size := 1) (bytes := 1) Tryz.underlying235 (by kernel_rfl) rfl (by decide) rfl
theorem keyB_take {e : List Int} {k : Nat} {x : Int} (h : e[k]? = some x) : keyB (e.take (k + 1)) = keyB (e.take k) ++ two x := by
  rw [List.take_add_one, h]
  unfold keyB
  rw [List.flatMap_append]; simp
theorem convert_key {w : World} {B : Nat} {E : TypeId} {a : Option Addr} {c : Nat} {l : List UInt8} {n : Nat} (h : Own w B E a c l) (hn : n = l.length) :
    (convert 235 9 (.slice a n c)).run Tryz.prog w = .ok (.string ⟨l.toArray⟩) w := by
  subst hn
  rcases h.form with ⟨rfl, rfl, rfl⟩ | ⟨g, rfl, _, _⟩
  · rw [run_convert_bytes_string w _ _ 5 none _ 0 Tryz.underlying235 Tryz.underlying5 Tryz.underlying9]
    simp [Conv.bytesToString]
    rfl
  · refine run_convert_bytes_back w _ _ 5 _ _ l Tryz.underlying235 Tryz.underlying5 Tryz.underlying9 fun j hj => ?_
    have := h.at_.one j l[j] (List.getElem?_eq_getElem hj) 0 _ rfl
    rw [addr_add]
    simpa [Flat.n] using this
set_option maxHeartbeats 1600000 in
theorem Key_calls (a : Option Addr) (n c : Nat) (e : List Int) (hn : n = e.length) (w : World) (h : At w a e) (hi : InE e) (hl : n ≤ 1000000) :
    Calls Tryz.prog 118 #[.slice a n c] w fun v w' => v = .returned (.string ⟨(keyB e).toArray⟩) ∧ Below w.heap.size w w' := by
  have HN := hide hn
  have HI := hide hi
  clear hn hi
  go_enter Tryz.func118, Tryz.ntmps118
  go_wp2
  go_loopw [3, 8] (fun bv iv wr => ∃ (k : Nat) (ao : Option Addr) (m co : Nat), iv = .int .i64 k ∧ k ≤ n ∧ bv = .slice ao m co ∧ Hid (m = 2 * k) ∧ Own wr w.heap.size 5 ao co (keyB (e.take k)) ∧ Below w.heap.size w wr) (fun _ iv _ => n - (intOf iv).toNat)
  case atStart => exact ⟨0, none, 0, 0, rfl, by omega, rfl, rfl, Own.none _ _ _, Below.refl _ _⟩
  case round =>
    obtain ⟨k, ao, m, co, rfl, hk, rfl, hm, hown, hb⟩ := hrel
    have hzr := hb.size
    by_cases hlt : k < n
    · obtain ⟨b1, off1, x, rfl, hx, x0⟩ := h.getI hb (k := k) (by rw [← HN.out]; exact hlt)
      have hk0 : (0 : Int) ≤ (k : Int) := by omega
      have hk1 : (k : Int) < (n : Int) := by omega
      have hxr := HI.out x (List.mem_of_getElem? hx.out)
      have HS := hide (keyB_take hx.out)
      have HL := hide (show m = (keyB (e.take k)).length by rw [keyB_len, List.length_take, ← HN.out, hm.out]; omega)
      obtain ⟨p, rfl⟩ : ∃ p : Nat, x = p := ⟨x.toNat, by omega⟩
      obtain ⟨u, hu⟩ : ∃ u : UInt8, u = UInt8.ofNat (p / 256) := ⟨_, rfl⟩
      obtain ⟨v, hv⟩ : ∃ v : UInt8, v = UInt8.ofNat (p % 256) := ⟨_, rfl⟩
      have HT : Hid (two (p : Int) = [u, v]) := by show _ = _; unfold two; rw [Int.toNat_natCast, hu, hv]
      have hu2 : IntKind.u8.wrap ((p : Int) / 256) = (u.toNat : Int) := by
        rw [hu, UInt8.toNat_ofNat']
        simp [IntKind.wrap, IntKind.bits, IntKind.signed]
      have hv2 : IntKind.u8.wrap (p : Int) = (v.toNat : Int) := by
        rw [hv, UInt8.toNat_ofNat']
        simp [IntKind.wrap, IntKind.bits, IntKind.signed]
      clear hx hu hv
      have hA : At (wr.alloc (.cells #[.int .u8 (u.toNat : Int), .int .u8 (v.toNat : Int)] 5)) (some ⟨wr.heap.size, 0, none⟩) [u, v] := At.ofBlk (Blk.new wr _ _) _ rfl
      have hzA : w.heap.size ≤ (wr.alloc (.cells #[.int .u8 (u.toNat : Int), .int .u8 (v.toNat : Int)] 5)).heap.size := by rw [World.size_alloc]; omega
      have hm9 : m ≤ 1000000000 := by rw [hm.out]; omega
      go_wp2_with (at_builtin; go_must (refine wpList_pushAll tyB8 (hown.alloc _) hA rfl rfl rfl rfl HL.out rfl hzA hm9 (by decide) ?_; intro a3 c3 w3 hown3 hg3 _))
      go_roundw
      case rel => exact ⟨k + 1, a3, m + 2, c3, by go_num, by omega, rfl, by show _ = _; rw [hm.out]; omega, by rw [HS.out, HT.out]; exact hown3, below_push (hb.alloc hzr _) (hown.alloc _) hg3 hzA⟩
      case measure => simp [intOf]; omega
    · obtain rfl : k = n := by omega
      have hE : e.take k = e := by rw [HN.out]; exact List.take_length
      rw [hE] at hown
      have hcv := convert_key hown (n := m) (by rw [keyB_len, ← HN.out, hm.out])
      clear hE
      go_wp2
      go_ret
      exact ⟨rfl, hb⟩
theorem tyI03 : TyZ Tryz.prog 90 3 (0 : Int) (.int .i64 0) := TyZ.of (bytes := 8) Tryz.underlying90 (by kernel_rfl) (by decide) rfl rfl
theorem key_at {e : List Int} (hi : InE e) {k p : Nat} (h : e[k]? = some (p : Int)) : (keyB e)[2 * k]? = some (UInt8.ofNat (p / 256)) ∧ (keyB e)[2 * k + 1]? = some (UInt8.ofNat (p % 256)) := by
  induction e generalizing k with
  | nil => simp at h
  | cons x e ih =>
    rw [keyB_cons]
    cases k with
    | zero =>
      simp at h
      subst h
      rw [Int.toNat_natCast]
      exact ⟨rfl, rfl⟩
    | succ k =>
      rw [show 2 * (k + 1) = 2 * k + 1 + 1 by omega]
      simp only [List.getElem?_cons_succ] at h ⊢
      exact ih hi.tail h
theorem two_join {u v p : Nat} (hu : u = p / 256) (hv : v = p % 256) (hp : p ≤ 65535) : wrap64 (u : Int) = (u : Int) ∧ wrap64 (v : Int) = (v : Int) ∧ wrap64 ((u : Int) * 256) = (u : Int) * 256 ∧ bits .or .i64 ((u : Int) * 256) (v : Int) = (p : Int) := by
  have h1 : u ≤ 255 := by omega
  have h2 : v ≤ 255 := by omega
  have h3 : (u : Int) * 256 + (v : Int) = (p : Int) := by omega
  clear hu hv
  refine ⟨IntWalk.wrap64_in _ ⟨by omega, by omega⟩, IntWalk.wrap64_in _ ⟨by omega, by omega⟩, IntWalk.wrap64_in _ ⟨by omega, by omega⟩, ?_⟩
  rw [bits_join .i64 62 (by decide) (fun n h1 h2 => by rw [IntKind.wrap_i64]; omega) 8 _ _ (by omega) (by omega) (by omega) (by omega) (by omega) (by omega)]
  exact h3
set_option maxHeartbeats 1600000 in
theorem Powers_calls (e : List Int) (s : ByteArray) (hs : s = ⟨(keyB e).toArray⟩) (w : World) (hi : InE e) (hl : e.length ≤ 1000000) :
    Calls Tryz.prog 122 #[.string s] w fun v w' => ∃ a, v = .returned (.slice (some a) e.length e.length) ∧ Own w' w.heap.size 3 (some a) e.length e ∧ Below w.heap.size w w' := by
  obtain ⟨n, hn⟩ : ∃ n, n = e.length := ⟨_, rfl⟩
  rw [← hn] at hl ⊢
  obtain ⟨m, hm⟩ : ∃ m : Nat, s.size = m := ⟨_, rfl⟩
  have hm2 : m = 2 * n := by rw [← hm, hs, hn]; simp [ByteArray.size, keyB_len]
  have hq : (m : Int) / 2 = (n : Int) := by omega
  have hq2 : (m : Int).tdiv 2 = (n : Int) := by rw [Int.tdiv_eq_ediv_of_nonneg (by omega)]; exact hq
  have hq3 : wrap64 (n : Int) = (n : Int) := IntWalk.wrap64_in _ (by omega)
  have HN := hide hn
  have HM := hide hm2
  have HI := hide hi
  have HK : Hid (∀ (j : Nat) (u : UInt8) (W : World), (keyB e)[j]? = some u → (Instr.index 9 (.string s) (.int .i64 (j : Int))).run Tryz.prog W = .ok (.int .u8 (u.toNat : Int)) W) := hide (by
    intro j u W hj
    have hj' : j < (keyB e).length := (List.getElem?_eq_some_iff.1 hj).1
    have hjs : (0 : Int) ≤ (j : Int) ∧ (j : Int) < s.size := by rw [hs]; simp [ByteArray.size]; omega
    rw [run_index_string W _ s _ _ Tryz.underlying9, dif_pos hjs]
    have : s[((j : Int)).toNat]'(by omega) = u := by
      subst hs
      have h2 := (List.getElem?_eq_some_iff.1 hj).2
      rw [← h2]
      simp only [Int.toNat_natCast]
      rfl
    rw [this])
  clear hn hm2 hi hs
  go_enter Tryz.func122, Tryz.ntmps122
  go_wp2_with (at_make; go_must (refine wpList_mk tyI03 (B := w.heap.size) (n := n) rfl rfl rfl rfl rfl rfl (Nat.le_refl _) (by omega) ?_; intro w3 hown3 hg3; have hb3 := below_of_grown hg3))
  clear hg3
  go_loopw [11] (fun iv wr => ∃ (k : Nat) (l : List Int), iv = .int .i64 k ∧ k ≤ n ∧ Hid (l.take k = e.take k) ∧ l.length = n ∧ Own wr w.heap.size 3 (some ⟨w.heap.size, 0, none⟩) n l ∧ Below w.heap.size w wr) (fun iv _ => n - (intOf iv).toNat)
  case atStart => exact ⟨0, List.replicate n 0, rfl, by omega, rfl, by simp, hown3, hb3⟩
  case round =>
    obtain ⟨k, l, rfl, hk, htk, hll, hown, hb⟩ := hrel
    by_cases hlt : k < n
    · have hk0 : (0 : Int) ≤ (k : Int) := by omega
      have hk1 : (k : Int) < (n : Int) := by omega
      obtain ⟨x, hx⟩ : ∃ x, e[k]? = some x := ⟨_, List.getElem?_eq_getElem (by rw [← HN.out]; exact hlt)⟩
      have hxr := HI.out x (List.mem_of_getElem? hx)
      obtain ⟨p, rfl⟩ : ∃ p : Nat, x = p := ⟨x.toNat, by omega⟩
      obtain ⟨c1, c2⟩ := key_at HI.out hx
      obtain ⟨u, hu⟩ : ∃ u : UInt8, u = UInt8.ofNat (p / 256) := ⟨_, rfl⟩
      obtain ⟨v, hv⟩ : ∃ v : UInt8, v = UInt8.ofNat (p % 256) := ⟨_, rfl⟩
      rw [← hu] at c1
      rw [← hv] at c2
      have i1 := fun W => HK.out _ _ W c1
      have i2 := fun W => HK.out _ _ W c2
      rw [show ((2 * k : Nat) : Int) = 2 * (k : Int) by omega] at i1
      rw [show ((2 * k + 1 : Nat) : Int) = 2 * (k : Int) + 1 by omega] at i2
      have hun : (u.toNat : Int) = (p : Int) / 256 := by rw [hu, UInt8.toNat_ofNat']; omega
      have hvn : (v.toNat : Int) = (p : Int) % 256 := by rw [hv, UInt8.toNat_ofNat']; omega
      have HUN := hide hun
      have HVN := hide hvn
      have hfz := hown.frozen k
      obtain ⟨z, zu, hz1, hz2, hz3⟩ := hown.cell1 (i := k) (by omega) rfl
      have hzu : zu = .int .i64 z := by simpa [Flat.enc] using hz2.symm
      subst hzu
      obtain ⟨e1, e2, e3, e4⟩ := two_join (u := u.toNat) (v := v.toNat) (p := p) (by omega) (by omega) (by omega)
      have hown2 := (hown.drew).set1 k (p : Int) (.int .i64 (p : Int)) rfl
      have HT2 : Hid ((l.set k (p : Int)).take (k + 1) = e.take (k + 1)) := by
        show _ = _
        rw [List.take_add_one, List.take_add_one, hx, List.take_set_of_le (Nat.le_refl _), htk.out, List.getElem?_set_self (by omega)]
      clear hx c1 c2 hu hv hun hvn hz1 hz2
      go_wp2
      go_region
      go_wp2
      go_roundw
      case rel => exact ⟨k + 1, _, by go_num, by omega, HT2.out, by simpa using hll, hown2, (below_drawn _ _ 1 |> hb.trans).setCell (p := ⟨w.heap.size, k, none⟩) (Nat.le_refl _) _⟩
      case measure => simp [intOf]; omega
    · obtain rfl : k = n := by omega
      have hle : l = e := by
        have := htk.out
        rw [List.take_of_length_le (by omega), List.take_of_length_le (by rw [← HN.out]; exact Nat.le_refl _)] at this
        exact this
      subst hle
      go_wp2
      go_ret
      exact ⟨_, rfl, hown, hb⟩
end Go.Proofs.YtcamcnahkdiefaaGreat

/- ref03.Make. -/
namespace Go.Proofs.YtcamcnahkdiefaaGreat
set_option linter.unusedVariables false
set_option linter.unusedSimpArgs false
open Go.RowKit
theorem results_rowP {P : Program} {fn : Func} {p u : Tmp} {ty : TypeId} (h : fn.results = #[.cell p ty, .tmp u]) (tmps : Array Value) (w : World) (g : Nat) (t : TypeId) (cs : Array Value) (fr : Nat × Nat) (d : TypeDesc)
    (hp : tmps.getD p undef = .pointer (some ⟨g, 0, none⟩)) (hg : w.heap[g]? = some (.cells cs t fr)) (hu : P.underlying ty = some d) (hd : (match d with | .struct _ | .array _ _ => true | _ => false) = true) (hi : (P.info? ty).map (·.size) = some cs.size) :
    (results fn tmps).run P w = .ok (.tuple #[.agg cs, tmps.getD u undef]) w := by
  have h0 : (results fn tmps).run P w =
      ((asAddr (tmps.getD p undef)).run P w).andThen fun a w₁ => ((loadVar ty a).run P w₁).andThen fun z w₂ => .ok (.tuple #[z, tmps.getD u undef]) w₂ := by
    simp only [results, h]
    simp [Sem.run_bind, Result.andThen]
  rw [h0, hp]
  simp [asAddr, run_loadVar_row w g t ty cs fr d hg hu hd hi, Result.andThen]
def PolyOut (V : Int) (L : List Tm) (E : Int) (w : World) (e : Ending) (w' : World) : Prop :=
  ∃ a n c, e = .returned (.tuple #[.agg #[.int .i64 V, .slice a n c], .int .i64 E]) ∧ TOut (fun q => w.heap.size ≤ q) w' a n c L ∧ Below w.heap.size w w'
theorem PolyOut.bad (E : Int) (w w' : World) (hb : Below w.heap.size w w') : PolyOut 0 [] E w (.returned (.tuple #[.agg #[.int .i64 0, .slice none 0 0], .int .i64 E])) w' := ⟨none, 0, 0, rfl, TOut.nil _ _, hb⟩
def rightL (vars : Int) (l : List Tm) : Bool := l.all fun t => rightT vars t.2
def mkE (vars : Int) (l : List Tm) : Int := if vars < 0 ∨ 64 < vars then 2 else if rightL vars l = false then 2 else if 4096 < (sortT l).length then 20 else 0
def mkV (vars : Int) (l : List Tm) : Int := if mkE vars l = 0 then vars else 0
def mkL (vars : Int) (l : List Tm) : List Tm := if mkE vars l = 0 then sortT l else []
theorem mkE_bad {vars : Int} (h : vars < 0 ∨ 64 < vars) (l : List Tm) : mkE vars l = 2 := by unfold mkE; rw [if_pos h]
theorem mk_bad {vars : Int} (h : vars < 0 ∨ 64 < vars) (l : List Tm) : mkE vars l = 2 ∧ mkV vars l = 0 ∧ mkL vars l = [] := by
  have e := mkE_bad h l
  exact ⟨e, by unfold mkV; rw [e]; rfl, by unfold mkL; rw [e]; rfl⟩
theorem rightL_step {vars : Int} {l : List Tm} {k : Nat} {t : Tm} (h : l[k]? = some t) : rightL vars (l.drop k) = (rightT vars t.2 && rightL vars (l.drop (k + 1))) := by
  rw [drop_at h]; rfl
theorem rightL_len {vars : Int} {l : List Tm} (h : rightL vars l = true) : LenT vars.toNat l := fun t ht => by
  have := List.all_eq_true.1 h t ht
  have := rightT_len this
  omega
set_option maxRecDepth 100000 in
set_option maxHeartbeats 6400000 in
theorem RMake_calls (P : Nat → Prop) (vars : Int) (a : Option Addr) (n c : Nat) (ts : List Tm) (w : World) (h : TOut P w a n c ts) (hl : n ≤ 100000000) (hll : ∀ t ∈ ts, t.2.length ≤ 1000000) (V : Int) (L : List Tm) (E : Int) (hV : mkV vars ts = V) (hL : mkL vars ts = L) (hE : mkE vars ts = E) :
    Calls Tryz.prog 91 #[.int .i64 vars, .slice a n c] w (PolyOut V L E w) := by
  unfold mkV at hV
  unfold mkL at hL
  rw [hE] at hV hL
  unfold mkE at hE
  have hb0 := below_box w (.cells #[.int .i64 0, .slice none 0 0] 42)
  have hX := Blk.new w 42 #[.int .i64 0, .slice none 0 0]
  by_cases hv : vars < 0 ∨ 64 < vars
  case pos =>
    rw [if_pos hv] at hE
    subst hE
    rw [if_neg (by decide)] at hV hL
    subst hV hL
    by_cases h1 : vars < 0
    · go_enter Tryz.func91, Tryz.ntmps91
      go_wp2
      refine bodyPost_ret (results_rowP rfl _ _ (w.heap.size) _ #[.int .i64 0, .slice none 0 0] (0, 0) _ rfl hX Tryz.underlying42 rfl (by kernel_rfl)) rfl ?_
      exact PolyOut.bad _ _ _ hb0
    · have h2 : 64 < vars := by omega
      go_enter Tryz.func91, Tryz.ntmps91
      go_wp2
      refine bodyPost_ret (results_rowP rfl _ _ (w.heap.size) _ #[.int .i64 0, .slice none 0 0] (0, 0) _ rfl hX Tryz.underlying42 rfl (by kernel_rfl)) rfl ?_
      exact PolyOut.bad _ _ _ hb0
  case neg =>
    rw [if_neg hv] at hE
    have h1 : ¬ vars < 0 := by omega
    have h2 : ¬ 64 < vars := by omega
    have HN := hide h.len
    have HE := hide hE
    have HLL := hide hll
    obtain ⟨Q, hQ⟩ : ∃ Q, rightL vars ts = Q := ⟨_, rfl⟩
    have HQ : Hid (rightL vars (ts.drop 0) = Q) := hQ
    have hat := h.at_.belowN hb0
    have hTO := h.belowN hb0
    clear hE hll hv
    go_enter Tryz.func91, Tryz.ntmps91
    go_wp2
    go_loopw [6] (fun iv wr => ∃ k : Nat, iv = .int .i64 k ∧ k ≤ n ∧ Hid (rightL vars (ts.drop k) = Q) ∧ wr = w.alloc (.cells #[.int .i64 0, .slice none 0 0] 42)) (fun iv _ => n - (intOf iv).toNat)
    case atStart => exact ⟨0, rfl, by omega, HQ.out, rfl⟩
    case round =>
      obtain ⟨k, rfl, hk, hQk, rfl⟩ := hrel
      by_cases hlt : k < n
      · obtain ⟨b1, off1, t, ea, en, ec, rfl, ht, t0, t1, hrow, hfar⟩ := hat.getF (Below.refl _ _) (k := k) (by rw [← HN.out]; exact hlt)
        have hQ2 := hQk.out
        rw [rightL_step ht.out] at hQ2
        have hk0 : (0 : Int) ≤ (k : Int) := by omega
        have hk1 : (k : Int) < (n : Int) := by omega
        have hen : en ≤ 1000000 := by
          have e1 : en = t.2.length := hrow.out.2.1
          rw [e1]; exact HLL.out t (List.mem_of_getElem? ht.out)
        obtain ⟨R, hR⟩ : ∃ R, rightT vars t.2 = R := ⟨_, rfl⟩
        have HR := hide (RRight_calls vars ea en ec t.2 hrow.out.2.1 _ hrow.out.2.2.2.2 hen R hR)
        rw [hR] at hQ2
        clear ht hR
        cases R with
        | false =>
          have hQF : Q = false := by rw [← hQ2]; rfl
          subst hQF
          have hE2 := HE.out
          rw [if_pos hQ] at hE2
          subst hE2
          rw [if_neg (by decide)] at hV hL
          subst hV hL
          clear hQ2 hQ
          go_wp2_with (go_at_call 101; go_must ((with_reducible refine (HR.out).mono ?_); rintro v w1 ⟨rfl, rfl⟩))
          refine bodyPost_ret (results_rowP rfl _ _ (w.heap.size) _ #[.int .i64 0, .slice none 0 0] (0, 0) _ rfl hX Tryz.underlying42 rfl (by kernel_rfl)) rfl ?_
          exact PolyOut.bad _ _ _ hb0
        | true =>
          rw [Bool.true_and] at hQ2
          have HQ2 := hide hQ2
          clear hQ2
          go_wp2_with (go_at_call 101; go_must ((with_reducible refine (HR.out).mono ?_); rintro v w1 ⟨rfl, rfl⟩))
          go_roundw
          case rel => exact ⟨k + 1, by go_num, by omega, HQ2.out, by first | rfl | trivial⟩
          case measure => simp [intOf]; omega
      · obtain rfl : k = n := by omega
        have hQ2 := hQk.out
        rw [List.drop_eq_nil_of_le (by rw [← HN.out]; exact Nat.le_refl _)] at hQ2
        have hQT : Q = true := by rw [← hQ2]; rfl
        subst hQT
        have hE2 := HE.out
        rw [if_neg (by rw [hQ]; decide)] at hE2
        obtain ⟨M, hM⟩ : ∃ M, sortT ts = M := ⟨_, rfl⟩
        have HS := hide (RSorted_calls vars.toNat (by omega) k P a c ts _ hTO hl (rightL_len hQ) M hM)
        rw [hM] at hE2 hL
        clear hQ2 hQ hM
        by_cases hml : 4096 < M.length
        · rw [if_pos hml] at hE2
          subst hE2
          rw [if_neg (by decide)] at hV hL
          subst hV hL
          go_wp2_with (go_at_call 132; go_must ((with_reducible refine (HS.out).mono ?_); rintro v w2 ⟨a2, n2, c2, rfl, hT2, hb2⟩; have hn2 : (4096 : Int) < (n2 : Int) := (by have := hT2.len; omega); have hX2 := hX.belowN hb2; obtain ⟨x0, x1, x2, x3⟩ := hX2.c2; have hX3 := hX2.alloc (.cells #[.int .i64 vars, .slice a2 n2 c2] 42); obtain ⟨y0, y1, y2, y3⟩ := hX3.c2; have hlx := hX2.lt))
          have hF6 := ((hX2.set_ 0 (.int .i64 0)).set_ 1 (.slice none 0 0)).alloc (.cells #[.int .i64 vars, .slice a2 n2 c2] 42)
          refine bodyPost_ret (results_rowP rfl _ _ (w.heap.size) _ #[.int .i64 0, .slice none 0 0] (0, 0) _ rfl hF6 Tryz.underlying42 rfl (by kernel_rfl)) rfl ?_
          have hb3 := hb0.trans (hb2.mono hb0.size)
          have hb4 := ((hb3.setCell (p := ⟨w.heap.size, 0, none⟩) (Nat.le_refl _) (.int .i64 0)).setCell (p := ⟨w.heap.size, 1, none⟩) (Nat.le_refl _) (.slice none 0 0))
          exact PolyOut.bad _ _ _ (hb4.alloc hb4.size _)
        · rw [if_neg hml] at hE2
          subst hE2
          rw [if_pos rfl] at hV hL
          subst hV hL
          go_wp2_with (go_at_call 132; go_must ((with_reducible refine (HS.out).mono ?_); rintro v w2 ⟨a2, n2, c2, rfl, hT2, hb2⟩; have hn2 : ¬ (4096 : Int) < (n2 : Int) := (by have := hT2.len; omega); have hX2 := hX.belowN hb2; obtain ⟨x0, x1, x2, x3⟩ := hX2.c2; have hX3 := hX2.alloc (.cells #[.int .i64 vars, .slice a2 n2 c2] 42); obtain ⟨y0, y1, y2, y3⟩ := hX3.c2; have hlx := hX2.lt))
          have hF6 := ((hX2.set_ 0 (.int .i64 vars)).set_ 1 (.slice a2 n2 c2)).alloc (.cells #[.int .i64 vars, .slice a2 n2 c2] 42)
          refine bodyPost_ret (results_rowP rfl _ _ (w.heap.size) _ #[.int .i64 vars, .slice a2 n2 c2] (0, 0) _ rfl hF6 Tryz.underlying42 rfl (by kernel_rfl)) rfl ?_
          have hb3 := hb0.trans (hb2.mono hb0.size)
          have hng : ¬ (w.alloc (.cells #[.int .i64 0, .slice none 0 0] 42)).heap.size ≤ w.heap.size := by rw [World.size_alloc]; omega
          have hb4 := ((hb3.setCell (p := ⟨w.heap.size, 0, none⟩) (Nat.le_refl _) (.int .i64 vars)).setCell (p := ⟨w.heap.size, 1, none⟩) (Nat.le_refl _) (.slice a2 n2 c2))
          refine ⟨a2, n2, c2, rfl, ((((hT2.setCell _ hng).setCell _ hng).belowN (below_box _ _)).imp fun q hq => ?_), hb4.alloc hb4.size _⟩
          rw [World.size_alloc] at hq; omega
end Go.Proofs.YtcamcnahkdiefaaGreat

/- poly.heap: what a map holds, and what is put into it. -/
namespace Go.Proofs.YtcamcnahkdiefaaGreat
set_option linter.unusedVariables false
set_option linter.unusedSimpArgs false
open Go.RowKit Go.Maps
theorem lawS : Keyed Tryz.prog 9 := string_keyed Tryz.underlying9
theorem zeroU (w : World) : (zeroValue 50).run Tryz.prog w = .ok (.int .u64 0) w := by kernel_rfl
theorem hkeyS {x : List UInt8} (h : x.length ≤ maxLen) : keyOf Tryz.prog 9 (.string ⟨x.toArray⟩) = some (.string x) := by
  have := Go.WideMaps.keyOf_string_mk (P := Tryz.prog) (s := ⟨x.toArray⟩) Tryz.underlying9 (by simpa [ByteArray.size] using h)
  simpa using this
theorem wfU (x : UInt64) : (Lit.int .u64 (x.toNat : Int)).wf = true := WalkArith.wf_u64 (by have := x.toNat_lt; omega)
theorem lit_u64 {H : Type} {a b : Int} (h : (DataW.lit (.int .u64 a) : DataW H) = .lit (.int .u64 b)) : a = b := by injection h with h; injection h
structure HeapM (w : World) (g : Nat) (vars : Int) (k : Nat) (D : DMap) : Prop where
  v : Blk w g 3 #[.int .i64 vars]
  t : Blk w (g + 2) 194 #[.map (some (g + 1))]
  m : w.ownsMap Tryz.prog 9 (plainElem Tryz.prog 50) (g + 1) k D
theorem HeapM.grown {w w' : World} {g : Nat} {vars : Int} {k : Nat} {D : DMap} {row : Option Nat} (h : HeapM w g vars k D) (hg : w.grownBy w' row) (h0 : ∀ j, row = some j → j ≠ g ∧ j ≠ g + 1 ∧ j ≠ g + 2) : HeapM w' g vars k D :=
  ⟨h.v.grown hg (fun e => (h0 g e.symm).1 rfl), h.t.grown hg (fun e => (h0 (g + 2) e.symm).2.2 rfl), h.m.kept hg (fun e => (h0 (g + 1) e.symm).2.1 rfl)⟩
theorem HeapM.belowN {w w' : World} {g : Nat} {vars : Int} {k : Nat} {D : DMap} (h : HeapM w g vars k D) (hb : Below w.heap.size w w') : HeapM w' g vars k D :=
  h.grown (grown_of_below hb none) (fun j e => by cases e)
def HeapT (w : World) (g : Nat) (vars : Int) (n : Nat) (l : List Tm) : Prop := ∃ D, HeapM w g vars l.length D ∧ HeapIs n D l
theorem HeapT.grown {w w' : World} {g : Nat} {vars : Int} {n : Nat} {l : List Tm} {row : Option Nat} (h : HeapT w g vars n l) (hg : w.grownBy w' row) (h0 : ∀ j, row = some j → j ≠ g ∧ j ≠ g + 1 ∧ j ≠ g + 2) : HeapT w' g vars n l := by
  obtain ⟨D, h1, h2⟩ := h
  exact ⟨D, h1.grown hg h0, h2⟩
theorem HeapT.belowN {w w' : World} {g : Nat} {vars : Int} {n : Nat} {l : List Tm} (h : HeapT w g vars n l) (hb : Below w.heap.size w w') : HeapT w' g vars n l :=
  h.grown (grown_of_below hb none) (fun j e => by cases e)
theorem HeapT.lt {w : World} {g : Nat} {vars : Int} {n : Nat} {l : List Tm} (h : HeapT w g vars n l) : g + 2 < w.heap.size := by
  obtain ⟨D, h1, _⟩ := h
  exact h1.t.lt
abbrev putF (g : Nat) : Value := .func (.func 117) #[] #[.pointer (some ⟨g + 2, 0, none⟩)]
abbrev allF (g : Nat) : Value := .func (.func 119) #[] #[.pointer (some ⟨g + 2, 0, none⟩), .pointer (some ⟨g, 0, none⟩)]
set_option maxHeartbeats 800000 in
theorem Heap_calls (n : Nat) (vars : Int) (w : World) :
    Calls Tryz.prog 73 #[.int .i64 vars] w fun v w' => v = .returned (.tuple #[putF w.heap.size, allF w.heap.size]) ∧ HeapT w' w.heap.size vars n [] ∧ Below w.heap.size w w' := by
  have hmm := @run_makeMap Tryz.prog
  go_enter Tryz.func73, Tryz.ntmps73
  go_wp2
  go_ret2
  have hz : (w.alloc (.cells #[.int .i64 vars] 3)).heap.size = w.heap.size + 1 := by simp
  refine ⟨rfl, ?_, ?_⟩
  · have h0 := Blk.new w 3 #[.int .i64 vars]
    have h1 := World.ownsMap_made (w.alloc (.cells #[.int .i64 vars] 3)) Tryz.prog 9 (plainElem (H := Unit) Tryz.prog 50)
    have h2 := Blk.new ((w.alloc (.cells #[.int .i64 vars] 3)).alloc (.map #[] 0)) 194 #[.map (some (w.heap.size + 1))]
    rw [hz] at h1
    have hz2 : ((w.alloc (.cells #[.int .i64 vars] 3)).alloc (.map #[] 0)).heap.size = w.heap.size + 2 := by simp
    rw [hz2] at h2
    exact ⟨_, ⟨(h0.alloc _).alloc _, h2, h1.alloc _⟩, HeapIs.nil n⟩
  · exact (((Below.refl _ _).alloc (Nat.le_refl _) _).alloc (by simp) _).alloc (by simp; omega) _
set_option maxRecDepth 100000 in
set_option maxHeartbeats 1600000 in
theorem Put_calls (w : World) (g : Nat) (vars : Int) (n : Nat) (l : List Tm) (hH : HeapT w g vars n l) (hl : l.length ≤ 1000000000) (t : Tm) (ea : Option Addr) (en ec : Nat) (hen : en = t.2.length) (hn : t.2.length = n) (hn6 : n ≤ 1000000) (hi : InE t.2) (hat : At w ea t.2) :
    Calls Tryz.prog 117 #[.int .u64 (t.1.toNat : Int), .slice ea en ec, .pointer (some ⟨g + 2, 0, none⟩)] w fun v w' => v = .returned (.tuple #[]) ∧ HeapT w' g vars n (l ++ [t]) ∧ w.grownBy w' (some (g + 1)) := by
  obtain ⟨D, hM, hI⟩ := hH
  obtain ⟨m0, m1⟩ := hM.t.c1
  have HK := hide (fun (W : World) (k : Below w.heap.size w W) => Key_calls ea en ec t.2 hen W (hat.belowN k) hi (by omega))
  obtain ⟨x, hx⟩ : ∃ x, keyB t.2 = x := ⟨_, rfl⟩
  have hxl : x.length ≤ maxLen := by rw [← hx, keyB_len]; unfold maxLen; omega
  have hkey := hide (hkeyS hxl)
  obtain ⟨o, ho⟩ : ∃ o, lin (dlt t.2) l = o := ⟨_, rfl⟩
  obtain ⟨S, hS⟩ : ∃ S, o + t.1 = S := ⟨_, rfl⟩
  have hadd := u64_add o t.1
  rw [hS] at hadd
  have HP := hide (hI.put hM.m.isMap hn hi (c := S) (by rw [ho, hS]))
  have HAT := hide (hI.at_ t.2 hn hi)
  rw [hx] at HK HP HAT
  rw [ho] at HAT
  have hBw := Below.drew (Below.refl w.heap.size w)
  have hmm := hM.m.kept (grown_of_below hBw none) (by simp)
  have HL : Hid (l.length < maxLen) := by show _ < _; unfold maxLen; omega
  have HM := hide hM
  clear hx ho hS hI hM hen hn
  go_enter Tryz.func117, Tryz.ntmps117
  go_wp2
  go_region_held3 (fun w' => w'.cell? ⟨g + 2, 0, none⟩ = some (.map (some (g + 1)))) (go_keep)
    ((go_at_call 118; go_must ((with_reducible refine (HK.out _ hBw).mono ?_); rintro v w5 ⟨rfl, hb5⟩; have hB5 := hBw.trans (hb5.mono hBw.size); have o0 := cell_later hB5 m0; have hm5 := hmm.kept (grown_of_below hb5 none) (by simp); obtain ⟨c0, hlk, hc0, _⟩ := hm5.lookup_int lawS Tryz.underlying194 Tryz.underlying50 (zeroU _) hkey.out; obtain rfl : c0 = (o.toNat : Int) := lit_u64 (hc0.symm.trans HAT.out); obtain ⟨w6, hup, hm6, hg6⟩ := hm5.update lawS Tryz.underlying194 HL.out hkey.out (plainElem_int Tryz.underlying50 (wfU S)); have o1 := hg6.cell o0 (by simp); clear hc0)))
  go_end0
  have hgw : w.grownBy w6 (some (g + 1)) := grown_trans (grown_of_below hB5 _) hg6
  refine ⟨rfl, ⟨_, ⟨HM.out.v.grown hgw (by simp), HM.out.t.grown hgw (by simp), ?_⟩, HP.out⟩, hgw⟩
  rw [List.length_append]; exact hm6
end Go.Proofs.YtcamcnahkdiefaaGreat

/- A region that draws its order: reads wherever they stand, then operations one behind the other that leave what is read, then what waits for all reads. -/
namespace Go.Proofs.YtcamcnahkdiefaaGreat
set_option linter.unusedVariables false
set_option linter.unusedSimpArgs false
open Go.RowKit
section
variable {P : Program} {l : List Oper} {Q : Exit → Act → World → Prop} {md : Region.Mode} {S : World → Prop} {late : Nat → Bool}
def pickL (l : List Oper) (is : List Nat) : List Oper := is.filterMap fun i => l[i]?
theorem pickL_cons {l : List Oper} {i : Nat} {o : Oper} (h : l[i]? = some o) (is : List Nat) : pickL l (i :: is) = o :: pickL l is := by
  unfold pickL; rw [List.filterMap_cons, h]
def goHeadL (md : Region.Mode) (ops : Array Oper) : List Nat → Array Bool → Option (Array Bool)
  | [], done => some done
  | i :: is, done => if (Region.ready md ops done).contains i && Region.free md ops done i then goHeadL md ops is (done.setIfInBounds i true) else none
def seqL (md : Region.Mode) (ops : Array Oper) : List Nat → Array Bool → Bool
  | [], done => decide (Region.ready md ops done = [])
  | i :: is, done => decide (Region.ready md ops done = [i]) && seqL md ops is (done.setIfInBounds i true)
theorem ready_op {ops : Array Oper} {done : Array Bool} {i : Nat} (h : i ∈ Region.ready md ops done) : ∃ o, ops[i]? = some o := by
  obtain ⟨_, oj, hoj, _⟩ := mem_ready.1 h
  exact ⟨oj, hoj⟩
theorem anyK_headL {g : Nat} {fin : Array Bool} (hs : Region.noSelect l.toArray = true) (hQ : ∀ c a w i v, Q (.panic c) (Act.put a i v) w → Q (.panic c) a w) :
    ∀ (is : List Nat) (done : Array Bool) (a : Act) (w : World), (∀ i ∈ is, ∀ j oj, l.toArray[j]? = some oj → late j = true → ∃ e ∈ oj.after, Region.binds md e = true ∧ e.on = i) →
      goHeadL md l.toArray is done = some fin → S w → headK P l.toArray S (fun a' => anyK P md l.toArray Q S late g fin a' w) (pickL l is) a → anyK P md l.toArray Q S late (is.length + g) done a w
  | [], done, a, w, _, hg, hS, h => by
    simp only [goHeadL, Option.some.injEq] at hg
    subst hg
    rw [List.length_nil, Nat.zero_add]
    exact h
  | i :: is, done, a, w, hlate, hg, hS, h => by
    simp only [goHeadL] at hg
    split at hg
    · rename_i hc
      simp only [Bool.and_eq_true] at hc
      have hi : i ∈ Region.ready md l.toArray done := by simpa using hc.1
      obtain ⟨o, h0⟩ := ready_op hi
      rw [pickL_cons (by simpa using h0)] at h
      obtain ⟨v, hy, hK⟩ := h
      rw [List.length_cons, show is.length + 1 + g = is.length + g + 1 by omega]
      exact anyK_take h0 (Region.noSelect_spec hs) (fun c a w => hQ c a w _ _) (hlate i List.mem_cons_self) _ _ _ _ (Region.free_spec h0 hc.2) hi hy hS
        (anyK_headL hs hQ is _ _ w (fun j hj => hlate j (List.mem_cons_of_mem _ hj)) hg hS hK)
    · cases hg
theorem anyK_seqL : ∀ (is : List Nat) (done : Array Bool) (a : Act) (w : World), (∀ i ∈ is, late i = true) →
    seqL md l.toArray is done = true → wpList P l.toArray Q (pickL l is) a w → anyK P md l.toArray Q S late is.length done a w
  | [], _, _, _, _, hB, h => ⟨by simpa [seqL] using hB, h⟩
  | i :: is, done, a, w, hL, hB, h => by
    simp only [seqL, Bool.and_eq_true, decide_eq_true_eq] at hB
    obtain ⟨o, h0⟩ := ready_op (md := md) (i := i) (ops := l.toArray) (done := done) (by rw [hB.1]; simp)
    rw [pickL_cons (by simpa using h0)] at h
    refine ⟨fun h1 => (by rw [hB.1] at h1; cases h1), fun j hj => ?_⟩
    rw [hB.1] at hj
    have hij : j = i := by simpa using hj
    subst hij
    have hw : wpOp P l.toArray Q j (wpList P l.toArray Q (pickL l is)) a w := by unfold wpOp; simp only [h0]; exact h
    exact wpOp_mono (fun a' w' h' => ⟨.inl (hL j List.mem_cons_self), anyK_seqL is _ a' w' (fun x hx => hL x (List.mem_cons_of_mem _ hx)) hB.2 h'⟩) hw
theorem anyK_midL {tl : List Nat} : ∀ (mid : List Nat) (done : Array Bool) (a : Act) (w : World), (∀ j ∈ tl, late j = true) →
    seqL md l.toArray (mid ++ tl) done = true → midK P l.toArray Q S (pickL l mid) (pickL l tl) a w → anyK P md l.toArray Q S late (mid ++ tl).length done a w
  | [], done, a, w, hL, hB, h => anyK_seqL tl done a w hL hB h
  | i :: mid, done, a, w, hL, hB, h => by
    simp only [List.cons_append, List.length_cons, seqL, Bool.and_eq_true, decide_eq_true_eq] at hB
    obtain ⟨o, h0⟩ := ready_op (md := md) (i := i) (ops := l.toArray) (done := done) (by rw [hB.1]; simp)
    rw [pickL_cons (by simpa using h0)] at h
    refine ⟨fun h1 => (by rw [hB.1] at h1; cases h1), fun j hj => ?_⟩
    rw [hB.1] at hj
    have hij : j = i := by simpa using hj
    subst hij
    unfold wpOp
    simp only [h0]
    have h1 := h (fun a' w' => (late j = true ∨ S w') ∧ anyK P md l.toArray Q S late (mid ++ tl).length (done.setIfInBounds j true) a' w') (fun a2 w2 hs2 hw2 => ⟨.inr hs2,
      anyK_midL mid _ a2 w2 hL hB.2 hw2⟩)
    split
    · rename_i hw; rw [if_pos hw] at h1; exact .inl h1
    · rename_i hw; rw [if_neg hw] at h1; exact h1
def listB (ops : Array Oper) (hd mid tl : List Nat) : Bool :=
  Region.noSelect ops && decide (hd.length + (mid ++ tl).length = ops.size) && (tl.all fun j => hd.all fun i => Region.waitsFor .any ops j i) &&
  match goHeadL .any ops hd (Array.replicate ops.size false) with
    | some fin => seqL .any ops (mid ++ tl) fin
    | none => false
theorem wp_region_list {id : Nat} {a : Act} {w : World} (hd mid tl : List Nat) (S : World → Prop) (hm : P.follows .mixedOrders = true) (hB : listB l.toArray hd mid tl = true) (hS : S w.drew)
    (h : headK P l.toArray S (fun a' => midK P l.toArray (NoPanic Q) S (pickL l mid) (pickL l tl) a' w.drew) (pickL l hd) a) : (Code.region id l.toArray true).wp P Q a w := by
  refine wp_region_noPanic (wp_region_any hm ?_)
  simp only [listB, Bool.and_eq_true, decide_eq_true_eq] at hB
  obtain ⟨⟨⟨hs, hn⟩, hlB⟩, hg⟩ := hB
  cases hgo : goHeadL .any l.toArray hd (Array.replicate l.toArray.size false) with
  | none => rw [hgo] at hg; cases hg
  | some fin =>
    rw [hgo] at hg
    simp only at hg
    refine anyK_any (S := S) (late := fun j => tl.contains j) _ _ _ _ ?_
    have key : ∀ (ll : List Oper) (a0 : Act), headK P l.toArray S (fun a' => midK P l.toArray (NoPanic Q) S (pickL l mid) (pickL l tl) a' w.drew) ll a0 →
        headK P l.toArray S (fun a' => anyK P .any l.toArray (NoPanic Q) S (fun j => tl.contains j) (mid ++ tl).length fin a' w.drew) ll a0 := by
      intro ll
      induction ll with
      | nil =>
        intro a0 h0
        exact anyK_midL mid fin a0 _ (fun j hj => by simpa using hj) hg h0
      | cons o ll ih =>
        intro a0 h0
        obtain ⟨v, hy, hK⟩ := h0
        exact ⟨v, hy, ih _ hK⟩
    have h1 := anyK_headL (Q := NoPanic Q) (late := fun j => tl.contains j) (g := (mid ++ tl).length) (fin := fin) hs (fun c a w i v hq => by cases hq) hd (Array.replicate l.toArray.size false) a w.drew (fun i hi j oj hj hlt => by
      have hjt : j ∈ tl := by simpa using hlt
      have h3 := List.all_eq_true.1 (List.all_eq_true.1 hlB j hjt) i hi
      obtain ⟨o', ho', e, he, hb, hon⟩ := Region.waitsFor_spec h3
      obtain rfl : o' = oj := Option.some.inj (ho'.symm.trans hj)
      exact ⟨e, he, hb, hon⟩) hgo hS (key _ _ h)
    rw [hn] at h1
    exact h1
end
end Go.Proofs.YtcamcnahkdiefaaGreat

/- poly.heap: what comes of a map. -/
namespace Go.Proofs.YtcamcnahkdiefaaGreat
set_option linter.unusedVariables false
set_option linter.unusedSimpArgs false
open Go.RowKit Go.Maps
theorem tyS : Ty Tryz.prog 196 9 (List UInt8) := Ty.of (z := .string ⟨#[]⟩) (size := 1) (bytes := 16) Tryz.underlying196 (by kernel_rfl) rfl (by decide) rfl
theorem own_ne_iter {H : Type} {P : Program} {k : TypeId} {R : Value → Option (DataW H × List MemPlace)} {w : World} {b r n : Nat} {D : DataW H} {left : Lit → Bool} {cnt base : Nat} {e : TypeId} {a : Option Addr} {c : Nat} {ss : List (List UInt8)}
    (h : Own w base e a c ss) (hr : w.ranges P k R b r n D left cnt) : some r ≠ a.map (·.block) := by
  have := row_ne_iter h.str hr
  cases a <;> exact this
theorem own_ne_low {w : World} {base : Nat} {e : TypeId} {a : Option Addr} {c : Nat} {α : Type} [Flat α] {ss : List α} (h : Own w base e a c ss) {b : Nat} (hb : b < base) : some b ≠ a.map (·.block) := fun e => by
  have := (h.blk b e.symm).1
  omega
theorem owns_size {H : Type} {P : Program} {k : TypeId} {R : Value → Option (DataW H × List MemPlace)} {w : World} {b n : Nat} {D : DataW H} (h : w.ownsMap P k R b n D) : Maps.size D ≤ n := by
  obtain ⟨es, clock, hb, F, hs, rfl⟩ := h
  rw [Maps.size_eq, length_read]
  exact hs
theorem At.getS {w wr : World} {a : Option Addr} {l : List (List UInt8)} (h : At w a l) (hb : Below w.heap.size w wr) {k : Nat} (hk : k < l.length) :
    ∃ b off x, a = some ⟨b, off, none⟩ ∧ Hid (l[k]? = some x) ∧ wr.cell? ⟨b, off + k, none⟩ = some (.string ⟨x.toArray⟩) := by
  obtain ⟨b, off, x, e, hx, hc⟩ := (h.belowN hb).get hk
  exact ⟨b, off, x, e, hx, by simpa [Flat.n] using hc 0 _ rfl⟩
theorem OwnT.setCell {P : Nat → Prop} {w : World} {B : Nat} {a : Option Addr} {c : Nat} {hs : List TmH} {ts : List Tm} (h : OwnT P w B a c hs ts) {g i : Nat} (u : Value) (hg : ¬ P g) (hB : g < B) : OwnT P (w.setCell ⟨g, i, none⟩ u) B a c hs ts :=
  ⟨h.out.setCell hB u, h.len, fun j y t e1 e2 => (h.row j y t e1 e2).grown (grown_setCell w g i u) (fun hne e => hg ((h.far j y t e1 e2 hne).2 g e)), h.far⟩
theorem owns_below {H : Type} {P : Program} {k : TypeId} {R : Value → Option (DataW H × List MemPlace)} {w w' : World} {b n B : Nat} {D : DataW H} (h : w.ownsMap P k R b n D) (hb : Below B w w') (hB : b < B) : w'.ownsMap P k R b n D := by
  obtain ⟨es, clock, h1, F, hs, hD⟩ := h
  exact ⟨es, clock, (hb.block b hB).trans h1, F, hs, hD⟩
theorem HeapM.below {B : Nat} {w w' : World} {g : Nat} {vars : Int} {k : Nat} {D : DMap} (h : HeapM w g vars k D) (hb : Below B w w') (hB : g + 2 < B) : HeapM w' g vars k D :=
  ⟨h.v.below hb (by omega), h.t.below hb hB, owns_below h.m hb (by omega)⟩
def allE (l : List Tm) : Int := if 4096 < (sortT l).length then 20 else 0
def allV (vars : Int) (l : List Tm) : Int := if allE l = 0 then vars else 0
def allL (l : List Tm) : List Tm := if allE l = 0 then sortT l else []
set_option maxRecDepth 100000 in
set_option maxHeartbeats 6400000 in
theorem All_calls (w : World) (g : Nat) (vars : Int) (n : Nat) (l : List Tm) (hH : HeapT w g vars n l) (hl : l.length ≤ 100000000) (hlen : LenT n l) (hin : ∀ t ∈ l, InE t.2) (hn6 : n ≤ 1000000) (V : Int) (L : List Tm) (E : Int) (hV : allV vars l = V) (hL : allL l = L) (hE : allE l = E) :
    Calls Tryz.prog 119 #[.pointer (some ⟨g + 2, 0, none⟩), .pointer (some ⟨g, 0, none⟩)] w (PolyOut V L E w) := by
  obtain ⟨D, hM, hI⟩ := hH
  obtain ⟨m0, m1⟩ := hM.t.c1
  obtain ⟨v0, v1⟩ := hM.v.c1
  have hgl := hM.t.lt
  have hb0 := below_box w (.cells #[.int .i64 0, .slice none 0 0] 42)
  have hX := Blk.new w 42 #[.int .i64 0, .slice none 0 0]
  have hM0 := hM.belowN hb0
  have hsz : Maps.size D ≤ l.length := owns_size hM.m
  have HI := hide hI
  have HIN := hide hin
  have HLN := hide hlen
  have m2 := cell_later hb0 m0
  have v2 := cell_later hb0 v0
  unfold allV at hV
  unfold allL at hL
  rw [hE] at hV hL
  unfold allE at hE
  have HE := hide hE
  have HM := hide hM
  have HM0 := hide hM0
  clear hE hI hin hlen hM hM0
  go_enter Tryz.func119, Tryz.ntmps119
  go_wp2_with (at_range; go_must (refine wpList_range_own _ rfl _ 194 rfl 9 50 lawS Tryz.underlying194 _ (g + 1) l.length D rfl HM0.out.m ?_; intro w0 hrg0 hg0 hs0))
  go_frame
  obtain ⟨r, hr⟩ : ∃ r, r = (w.alloc (.cells #[.int .i64 0, .slice none 0 0] 42)).heap.size := ⟨_, rfl⟩
  rw [← hr] at hrg0 ⊢
  have hrz : w.heap.size < r := by rw [hr]; simp
  have hbg0 := hb0.trans ((below_of_grown hg0).mono hb0.size)
  have HZ0 := hide (show r < w0.heap.size by rw [hs0, hr]; omega)
  have hX0 := hX.belowN (below_of_grown hg0)
  clear hr hs0 hg0 hX
  go_loopw [4] (fun kv wr => ∃ (left : Lit → Bool) (cnt m kc : Nat) (ka : Option Addr) (ss : List (List UInt8)), kv = .slice ka m kc ∧ Hid (m = ss.length) ∧ wr.ranges Tryz.prog 9 (plainElem Tryz.prog 50) (g + 1) r l.length D left cnt ∧ ss.length + cnt ≤ Maps.size D ∧
      Own wr (w.heap.size + 1) 9 ka kc ss ∧ CollNZ D left ss ∧ Below (w.heap.size + 1) w0 wr ∧ Below w.heap.size w wr) (fun _ wr => wr.rangeLeft (g + 1) r)
  case atStart => exact ⟨_, _, 0, 0, none, [], rfl, rfl, hrg0, by simp, Own.none _ _ _, CollNZ.start D, Below.refl _ _, hbg0⟩
  case round =>
    obtain ⟨left, cnt, m, kc, ka, ss, rfl, hm, hrg, hcs, hown, hC, hbx, hb⟩ := hrel
    have hzr := hb.size
    have hzr1 : w.heap.size + 1 ≤ wr.heap.size := by have := hbx.size; have := HZ0.out; omega
    go_wp2_with (at_next; go_must (refine wpList_next_ranges _ rfl _ rfl 9 lawS (plainElem Tryz.prog 50) encStr (Value.int .u64) (fun key kl hk => by obtain ⟨x, hx, _⟩ := Maps.keyOf_str Tryz.underlying9 hk; exact ⟨x, hx⟩) (fun v y hv => by obtain ⟨c, rfl, _⟩ := plainElem_int_inv Tryz.underlying50 hv; exact ⟨c, rfl⟩) (g + 1) r l.length _ _ _ rfl hrg ?_ ?_))
    · intro hc0 hl0
      have HO := hide (heap_out HI.out HLN.out HIN.out hC hl0)
      have hsl : m = (sortT l).length := by rw [hm.out, ← HO.out, outT_len]
      have hE := HE.out
      rw [← hsl] at hE
      have HSL := hide hsl
      have hXr := hX0.below hbx (Nat.lt_succ_self _)
      have HMr : Hid (HeapM wr g vars l.length D) := hide ⟨HM.out.v.belowN hb, HM.out.t.belowN hb, hrg.owns⟩
      have hkk : ∀ x ∈ ss, ∃ e, e.length = n ∧ InE e ∧ x = keyB e := fun x hx => HI.out.keys x ((hC.2 x).1 hx).1
      have HKK := hide hkk
      obtain ⟨x0, x1, x2, x3⟩ := hXr.c2
      clear hsl hkk hC hl0 hc0 hcs
      by_cases hbig : 4096 < m
      · rw [if_pos hbig] at hE
        subst hE
        rw [if_neg (by decide)] at hV hL
        subst hV hL
        have hbg : (4096 : Int) < (m : Int) := by omega
        go_wp2
        have hF6 := (hXr.set_ 0 (.int .i64 0)).set_ 1 (.slice none 0 0)
        refine bodyPost_ret (results_rowP rfl _ _ (w.heap.size) _ #[.int .i64 0, .slice none 0 0] (0, 0) _ rfl hF6 Tryz.underlying42 rfl (by kernel_rfl)) rfl ?_
        exact PolyOut.bad _ _ _ ((hb.setCell (p := ⟨w.heap.size, 0, none⟩) (Nat.le_refl _) (.int .i64 0)).setCell (p := ⟨w.heap.size, 1, none⟩) (Nat.le_refl _) (.slice none 0 0))
      · rw [if_neg hbig] at hE
        subst hE
        rw [if_pos rfl] at hV hL
        subst hV hL
        have hbg : ¬ (4096 : Int) < (m : Int) := by omega
        have HS := hide (SortS_calls wr _ _ ka m kc ss hm.out hown (by omega))
        have HR := hide (fun (W : World) (k : Own W (w.heap.size + 1) 9 ka kc (ss.mergeSort leB)) => RevS_calls W _ _ ka m kc _ (by rw [hm.out]; simp) k)
        have hmb : m ≤ 4096 := by omega
        clear hbig
        go_wp2_with (first
          | (go_at_call 120; go_must ((with_reducible refine (HS.out).mono ?_); rintro v wS ⟨rfl, hownS, hgS⟩))
          | (go_at_call 121; go_must ((with_reducible refine (HR.out _ hownS).mono ?_); rintro v wA ⟨rfl, hownA, hgA⟩; have hgSA := grown_trans hgS hgA; have hMA := HMr.out.grown hgSA (fun j hj => by have := (hown.blk j hj).1; omega); obtain ⟨a0, a1⟩ := hMA.v.c1)))
        have hbA := hb.grown hgSA hzr (fun j hj => by have := (hown.blk j hj).1; omega)
        have hzA := hbA.size
        have hXA := hXr.grown hgSA (fun e => by have := (hown.blk _ e.symm).1; omega)
        have hKA := hownA.at_
        have hGP := Blk.new wA 42 #[.int .i64 vars, .slice none 0 0]
        have hbP := below_box wA (.cells #[.int .i64 vars, .slice none 0 0] 42)
        have hgA2 : g + 2 < wA.heap.size := by omega
        have HKL : Hid (m = (downK ss).length) := by show _ = _; rw [hm.out]; simp [downK]
        obtain ⟨gp, hgp⟩ : ∃ gp, gp = wA.heap.size := ⟨_, rfl⟩
        have HGP := hide hgp
        rw [← hgp] at hGP ⊢
        have hgp1 : w.heap.size < gp := by have := hXA.lt; omega
        clear hgSA hgA hgS hownS hownA hgp hX0 hXr x0 x1 x2 x3 hown hbx hrg hrg0
        go_loopw [35] (fun iv wq => ∃ (k c : Nat) (a : Option Addr) (hs : List TmH), iv = .int .i64 k ∧ k ≤ m ∧ Blk wq gp 42 #[.int .i64 vars, .slice a k c] ∧ OwnT (fun q => gp < q) wq (gp + 1) a c hs ((sortT l).take k) ∧ Below wA.heap.size wA wq ∧ gp < wq.heap.size) (fun iv _ => m - (intOf iv).toNat)
        case atStart => exact ⟨0, 0, none, [], rfl, by omega, hGP, OwnT.nil (Own.none _ _ _), hbP, hGP.lt⟩
        case round =>
          obtain ⟨k, c, a, hs, rfl, hk, hG, hOT, hbq, hgq⟩ := hrel
          have hzq := hbq.size
          obtain ⟨g0, g1, g2, g3⟩ := hG.c2
          by_cases hlt : k < m
          · obtain ⟨b1, off1, x, rfl, hx, x0⟩ := hKA.getS hbq (k := k) (show k < (downK ss).length by rw [← HKL.out]; exact hlt)
            have hk0 : (0 : Int) ≤ (k : Int) := by omega
            have hk1 : (k : Int) < (m : Int) := by omega
            obtain ⟨e, he1, he2, he3⟩ := HKK.out x (mem_downK.1 (List.mem_of_getElem? hx.out))
            have htk : (sortT l)[k]? = some (cOf D x, e) := by
              rw [← HO.out]
              unfold outT
              rw [List.getElem?_map, show (downK ss)[k]? = some x from hx.out]
              show some (cOf D x, powB x) = _
              rw [he3, powB_keyB he2]
            obtain ⟨t, ht⟩ : ∃ t : Tm, t = (cOf D x, e) := ⟨_, rfl⟩
            have ht1 : cOf D x = t.1 := by rw [ht]
            have ht2 : e = t.2 := by rw [ht]
            rw [← ht] at htk
            subst ht2
            have HTK := hide (show (sortT l).take (k + 1) = (sortT l).take k ++ [t] by rw [List.take_add_one, htk]; rfl)
            have hMq : HeapM wr g vars l.length D := hMA.belowN hbq
            obtain ⟨q0, q1⟩ := hMq.t.c1
            have hxl : x.length ≤ maxLen := by rw [he3, keyB_len]; unfold maxLen; omega
            have HLK : Hid (∀ W, Below (gp + 1) wr W → (Instr.lookup 194 (.map (some (g + 1))) (.string ⟨x.toArray⟩) false).run Tryz.prog W = .ok (.int .u64 (t.1.toNat : Int)) W) := hide (fun W kb => by
              obtain ⟨c0, hlk, hc0, _⟩ := (hMq.below kb (by omega)).m.lookup_int lawS Tryz.underlying194 Tryz.underlying50 (zeroU _) (hkeyS hxl)
              have h9 := HI.out.at_ t.2 he1 he2
              rw [← he3] at h9
              have h8 := lit_u64 (hc0.symm.trans h9)
              have h7 := HI.out.cOf he1 he2
              rw [← he3, ht1] at h7
              rw [h8, ← h7] at hlk
              exact hlk)
            have HPW := hide (fun W => Powers_calls t.2 ⟨x.toArray⟩ (by rw [he3]) W he2 (by omega))
            have HEN : Hid (t.2.length = n) := hide he1
            obtain ⟨en, hen⟩ : ∃ en, t.2.length = en := ⟨_, rfl⟩
            rw [hen] at HPW
            have HEN2 := hide hen
            have hen6 : en ≤ 9223372036854775807 := by omega
            have hBw := Below.drew (Below.refl wr.heap.size wr)
            have hBw1 : Below (gp + 1) wr wr.drew := hBw.mono (by omega)
            have HHL : Hid (k = hs.length) := by show _ = _; rw [hOT.len, List.length_take, ← HSL.out]; omega
            obtain ⟨S', hS'⟩ : ∃ S' : World → Prop, S' = fun w' => w'.cell? ⟨gp, 1, none⟩ = some (.slice a k c) ∧ w'.cell? ⟨g + 2, 0, none⟩ = some (.map (some (g + 1))) ∧ (Instr.lookup 194 (.map (some (g + 1))) (.string ⟨x.toArray⟩) false).run Tryz.prog w' = .ok (.int .u64 (t.1.toNat : Int)) w' := ⟨_, rfl⟩
            have HSE : Hid (∀ w', S' w' → w'.cell? ⟨gp, 1, none⟩ = some (.slice a k c) ∧ w'.cell? ⟨g + 2, 0, none⟩ = some (.map (some (g + 1))) ∧ (Instr.lookup 194 (.map (some (g + 1))) (.string ⟨x.toArray⟩) false).run Tryz.prog w' = .ok (.int .u64 (t.1.toNat : Int)) w') := hide (fun w' h => by rw [hS'] at h; exact h)
            have HSI : Hid (∀ w4, Below (gp + 1) wr w4 → S' w4) := hide (fun w4 hb4 => by
              rw [hS']
              exact ⟨(hG.below hb4 (Nat.lt_succ_self _)).c2.2.1, (hMq.t.below hb4 (by omega)).c1.1, HLK.out _ hb4⟩)
            have HMG := hide hG
            have HOT := hide hOT
            clear he1 he3 ht ht1 htk hx hen hOT hMq hG hS' q0 q1
            go_wp2
            refine wp_region_list [0, 1, 2, 3, 4, 5] [6, 7, 8, 9] [10, 11] S' (by kernel_rfl) (by kernel_rfl) (HSI.out _ hBw1) ?_
            simp only [pickL, List.filterMap_cons, List.filterMap_nil, List.getElem?_cons_succ, List.getElem?_cons_zero]
            iterate 6
              apply headK_step (by rfl)
              · intro w' hw'
                obtain ⟨s0, s1, s2⟩ := HSE.out w' hw'
                go_simp
                rfl
              intro a' ha'
              simp only [Act.put, List.setIfInBounds_toArray, List.set_cons_succ, List.set_cons_zero] at ha'
              subst ha'
            refine headK_nil ?_
            rw [midK]
            intro K0 hK0
            have HK0 := hide hK0
            clear hK0
            go_simp
            go_at_call 122
            refine (HPW.out _).mono ?_
            rintro v w5 ⟨a5, rfl, hown5, hb5⟩
            have hB5 := hBw.trans (hb5.mono hBw.size)
            have hB51 : Below (gp + 1) wr w5 := hB5.mono (by omega)
            refine HK0.out _ _ (HSI.out _ hB51) ?_
            clear HK0
            rw [midK]
            intro K0 hK0
            have HK0 := hide hK0
            clear hK0
            go_simp
            refine HK0.out _ _ (HSI.out _ hB51) ?_
            clear HK0
            rw [midK]
            intro K0 hK0
            have HK0 := hide hK0
            clear hK0
            go_simp
            have hz5 := hB5.size
            have hbx9 := below_box w5 (.cells #[.int .u64 (t.1.toNat : Int), .slice (some a5) en en] 92)
            have hB9 := hB51.trans (hbx9.mono (show gp + 1 ≤ w5.heap.size by omega))
            refine HK0.out _ _ (HSI.out _ hB9) ?_
            clear HK0
            rw [midK]
            intro K0 hK0
            have HK0 := hide hK0
            clear hK0
            have hO5 := HOT.out.belowN hB5
            have hz9 : gp + 1 ≤ (w5.alloc (.cells #[.int .u64 (t.1.toNat : Int), .slice (some a5) en en] 92)).heap.size := by rw [World.size_alloc]; omega
            refine step_pushAll tyT (hO5.out.alloc _) (l2 := [(⟨t.1, some a5, en, en⟩ : TmH)]) (At.ofBlk (Blk.new w5 _ #[.int .u64 (t.1.toNat : Int), .slice (some a5) en en]) _ rfl) rfl rfl rfl rfl HHL.out rfl hz9 (by omega) (by decide) ?_
            intro a6 c6 w6 hown6 hg6 hcs6
            have hB6 := below_push hB9 (hO5.out.alloc _) hg6 hz9
            refine HK0.out _ _ (HSI.out _ hB6) ?_
            clear HK0 HSE HSI
            rw [midK]
            have hG6 := HMG.out.below hB6 (Nat.lt_succ_self _)
            obtain ⟨s6, s7, s8, s9⟩ := hG6.c2
            have hOT6 := (hO5.belowN hbx9).push hown6 hg6 hcs6 (y := ⟨t.1, some a5, en, en⟩) (t := t) ⟨rfl, HEN2.out.symm, Nat.le_refl _, hen6, (hown5.belowN hbx9).at_⟩ (fun hne => by
              have h7 := (hown5.blk a5.block rfl).1
              have h8 : wr.drew.heap.size = wr.heap.size := rfl
              refine ⟨fun e => ?_, fun q e => ?_⟩
              · have h10 : a5.block < wr.heap.size := (HOT.out.out.blk a5.block e.symm).2
                omega
              · have e9 : a5.block = q := Option.some.inj e
                omega)
            have hF6 := hG6.set_ 1 (.slice a6 (k + 1) c6)
            have hb6 := hbq.trans (hB6.mono (show wA.heap.size ≤ gp + 1 by rw [← HGP.out]; omega))
            go_wp2
            refine NoPanic.normal ?_
            go_wp2
            go_roundw
            case rel =>
              have hOT7 := hOT6.setCell (g := gp) (i := 1) (.slice a6 (k + 1) c6) (by omega) (Nat.lt_succ_self _)
              rw [← HTK.out] at hOT7
              exact ⟨k + 1, c6, a6, _, by go_num, by omega, hF6, hOT7, hb6.setCell (p := ⟨gp, 1, none⟩) (by rw [← HGP.out]; exact Nat.le_refl _) _, by rw [World.size_setCell]; exact hG6.lt⟩
            case measure => simp [intOf]; omega
          · obtain rfl : k = m := by omega
            rw [List.take_of_length_le (by rw [← HSL.out]; exact Nat.le_refl _)] at hOT
            have hXq := hXA.belowN hbq
            obtain ⟨x0, x1, x2, x3⟩ := hXq.c2
            have hbW := hbA.trans (hbq.mono hzA)
            go_wp2
            have hF6 := (hXq.set_ 0 (.int .i64 vars)).set_ 1 (.slice a k c)
            refine bodyPost_ret (results_rowP rfl _ _ (w.heap.size) _ #[.int .i64 vars, .slice a k c] (0, 0) _ rfl hF6 Tryz.underlying42 rfl (by kernel_rfl)) rfl ?_
            have hT := hOT.out_ (n := k) HSL.out
            refine ⟨a, k, c, rfl, ((hT.setCell _ (by omega)).setCell _ (by omega)).imp (fun q hq => by omega), (hbW.setCell (p := ⟨w.heap.size, 0, none⟩) (Nat.le_refl _) _).setCell (p := ⟨w.heap.size, 1, none⟩) (Nat.le_refl _) _⟩
    · intro x c kl yd yp w2 cnt2 hkey hlk hv hat hrg2 hlt hg2 hs2 hen
      obtain ⟨x', ex, rfl, hxl⟩ := Maps.keyOf_str Tryz.underlying9 hkey
      obtain rfl : x = x' := encStr_inj ex
      obtain ⟨c', ec, ey, hwc⟩ := plainElem_int_inv Tryz.underlying50 hv
      injection ec with _ ec
      subst ec
      injection ey with ey _
      subst ey
      have hown2 := hown.grown hg2 (.inr (fun e => own_ne_iter hown hrg e.symm))
      have hb2 := hb.grown hg2 hzr (fun j hj => by cases hj; omega)
      have hbx2 := hbx.grown hg2 (by have := hbx.size; have := HZ0.out; omega) (fun j hj => by cases hj; omega)
      have hz2 := hb2.size
      have hz21 : w.heap.size + 1 ≤ w2.heap.size := by have := hbx2.size; have := HZ0.out; omega
      replace hat : ∀ zd, D.atKey (.string x) zd = .lit (.int .u64 c) := hat
      clear hs2
      by_cases hcz : c = 0
      · have e1 : (c != 0) = false := by simp [hcz]
        have e2 : (c == 0) = true := by simp [hcz]
        have hC2 := hC.out hlk (by rw [hcz] at hat; exact hat)
        clear hcz
        go_wp2
        go_roundw
        case rel => exact ⟨_, cnt2, m, kc, ka, ss, rfl, hm.out, hrg2, by omega, hown2, hC2, hbx2, hb2⟩
        case measure => rw [hrg2.left_eq, hrg.left_eq]; exact hlt
      · have e1 : (c != 0) = true := by simpa using hcz
        have e2 : (c == 0) = false := by simpa using hcz
        have hC2 := hC.in_ hlk hat hcz
        have hm9 : m ≤ 1000000000 := by rw [hm.out]; omega
        clear hcz
        go_wp2_with (at_builtin; go_must (refine wpList_push tyS hown2 x rfl rfl rfl rfl rfl rfl hm.out hz21 hm9 ?_; intro a3 c3 w3 hown3 hg3 hm3; go_frame))
        have hgx : w2.grownBy w3 (ka.map (·.block)) := hg3
        have hrg3 := hrg2.kept hgx (own_ne_low hown2 (by omega)) (own_ne_iter hown2 hrg2)
        go_roundw
        case rel => exact ⟨_, cnt2, m + 1, c3, a3, ss ++ [x], rfl, by show _ = _; rw [List.length_append, ← hm.out]; rfl, hrg3, by rw [List.length_append]; simp; omega, hown3, hC2, below_push hbx2 hown2 hg3 hz21, hb2.grown hg3 hz2 (fun j hj => by have := (hown2.blk j hj).1; omega)⟩
        case measure => rw [hrg3.left_eq, hrg.left_eq]; exact hlt
end Go.Proofs.YtcamcnahkdiefaaGreat
