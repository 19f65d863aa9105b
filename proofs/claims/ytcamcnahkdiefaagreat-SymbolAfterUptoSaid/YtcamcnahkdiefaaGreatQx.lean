/- Several texts of mine in one file: Pp, Mp. -/
import Derived.Test.YtcamcnahkdiefaaGreatQw
import Derived.Sort.KeysCollected
import Derived.Maps.Views
import Derived.Deep.RegionHeld3
import Derived.Maps.RangeWalk
import Derived.Maps.OwnOps
import Derived.Maps.OwnSet
import Derived.Test.YtcamcnahkdiefaaGreatQa
/- Plain: numbers by powers, in a map; its keys in falling order. -/
namespace Go.Proofs.YtcamcnahkdiefaaGreat
set_option linter.unusedVariables false
set_option linter.unusedSimpArgs false
open Go.Maps (has Tidy IsMap)
/-- a number as two bytes -/
def two (n : Int) : List UInt8 := [UInt8.ofNat (n.toNat / 256), UInt8.ofNat (n.toNat % 256)]
/-- powers as bytes -/
def keyB (e : List Int) : List UInt8 := e.flatMap two
def InE (e : List Int) : Prop := ∀ n ∈ e, 0 ≤ n ∧ n ≤ 65535
theorem InE.head {n : Int} {e : List Int} (h : InE (n :: e)) : 0 ≤ n ∧ n ≤ 65535 := h n List.mem_cons_self
theorem InE.tail {n : Int} {e : List Int} (h : InE (n :: e)) : InE e := fun m hm => h m (List.mem_cons_of_mem _ hm)
theorem keyB_cons (n : Int) (e : List Int) : keyB (n :: e) = UInt8.ofNat (n.toNat / 256) :: UInt8.ofNat (n.toNat % 256) :: keyB e := rfl
theorem keyB_len (e : List Int) : (keyB e).length = 2 * e.length := by
  induction e with
  | nil => rfl
  | cons n e ih => rw [keyB_cons, List.length_cons, List.length_cons, ih, List.length_cons]; omega
theorem hi_nat {n : Int} (h : 0 ≤ n ∧ n ≤ 65535) : (UInt8.ofNat (n.toNat / 256)).toNat = n.toNat / 256 := by
  rw [UInt8.toNat_ofNat']; exact Nat.mod_eq_of_lt (by omega)
theorem lo_nat (n : Int) : (UInt8.ofNat (n.toNat % 256)).toNat = n.toNat % 256 := by
  rw [UInt8.toNat_ofNat']; exact Nat.mod_eq_of_lt (by omega)
theorem u8_eq_iff (a b : UInt8) : a = b ↔ a.toNat = b.toNat := UInt8.toNat_inj.symm
theorem keyB_lt : ∀ {e f : List Int}, InE e → InE f → e.length = f.length → ordR e f < 0 → keyB f < keyB e
  | [], [], _, _, _, h => by simp [ordR] at h
  | [], y :: ys, _, _, hl, _ => by simp at hl
  | x :: xs, [], _, _, hl, _ => by simp at hl
  | x :: xs, y :: ys, he, hf, hl, h => by
    rw [ordR] at h
    have h1 := he.head
    have h2 := hf.head
    rw [keyB_cons, keyB_cons, List.cons_lt_cons_iff, List.cons_lt_cons_iff, UInt8.lt_iff_toNat_lt, UInt8.lt_iff_toNat_lt, u8_eq_iff, u8_eq_iff, hi_nat h1, hi_nat h2, lo_nat, lo_nat]
    by_cases c1 : y < x
    · by_cases c2 : y.toNat / 256 < x.toNat / 256
      · exact .inl c2
      · exact .inr ⟨by omega, .inl (by omega)⟩
    · rw [if_neg c1] at h
      by_cases c2 : x < y
      · rw [if_pos c2] at h; omega
      · rw [if_neg c2] at h
        exact .inr ⟨by omega, .inr ⟨by omega, keyB_lt he.tail hf.tail (by simpa using hl) h⟩⟩
theorem keyB_inj : ∀ {e f : List Int}, InE e → InE f → keyB e = keyB f → e = f
  | [], [], _, _, _ => rfl
  | [], y :: ys, _, _, h => by simp [keyB, two] at h
  | x :: xs, [], _, _, h => by simp [keyB, two] at h
  | x :: xs, y :: ys, he, hf, h => by
    have h1 := he.head
    have h2 := hf.head
    rw [keyB_cons, keyB_cons] at h
    injection h with a1 a2
    injection a2 with a2 a3
    rw [u8_eq_iff, hi_nat h1, hi_nat h2] at a1
    rw [u8_eq_iff, lo_nat, lo_nat] at a2
    rw [show x = y by omega, keyB_inj he.tail hf.tail a3]
/-- what bytes say -/
def powB : List UInt8 → List Int
  | a :: b :: r => ((a.toNat * 256 + b.toNat : Nat) : Int) :: powB r
  | _ => []
theorem powB_keyB : ∀ {e : List Int}, InE e → powB (keyB e) = e
  | [], _ => rfl
  | x :: xs, h => by
    have h1 := h.head
    rw [keyB_cons, powB, powB_keyB h.tail, hi_nat h1, lo_nat]
    congr 1
    omega
abbrev DMap := DataW Unit
abbrev zeroD : DMap := .lit (.int .u64 0)
/-- the numbers that stand at powers -/
structure HeapIs (n : Nat) (D : DMap) (l : List Tm) : Prop where
  at_ : ∀ e, e.length = n → InE e → D.atKey (.string (keyB e)) zeroD = .lit (.int .u64 ((lin (dlt e) l).toNat : Int))
  keys : ∀ x, has D (.string x) = true → ∃ e, e.length = n ∧ InE e ∧ x = keyB e
theorem HeapIs.nil (n : Nat) : HeapIs n (.map []) [] := ⟨fun e _ _ => rfl, fun x h => by simp [has] at h⟩
theorem lin_dlt_snoc (e : List Int) (l : List Tm) (t : Tm) : lin (dlt e) (l ++ [t]) = lin (dlt e) l + t.1 * dlt e t.2 := by
  rw [lin_append, lin, lin]; grind
theorem HeapIs.put {n : Nat} {D : DMap} {l : List Tm} (h : HeapIs n D l) (hm : IsMap D) {t : Tm} (hl : t.2.length = n) (hi : InE t.2) {c : UInt64} (hc : c = lin (dlt t.2) l + t.1) :
    HeapIs n (D.put (.string (keyB t.2)) (.lit (.int .u64 (c.toNat : Int)))) (l ++ [t]) := by
  refine ⟨fun e he1 he2 => ?_, fun x hx => ?_⟩
  · rw [lin_dlt_snoc]
    by_cases q : t.2 = e
    · subst q
      rw [Maps.atKey_put_same (k := .string (keyB t.2)) hm trivial, hc]
      have : dlt t.2 t.2 = 1 := by unfold dlt; rw [if_pos rfl]
      rw [this]
      congr 4
      grind
    · have q' : (Lit.string (keyB e)) ≠ .string (keyB t.2) := fun e' => by
        injection e' with e'
        exact q (keyB_inj he2 hi e').symm
      rw [Maps.atKey_put_other q', h.at_ e he1 he2]
      have : dlt e t.2 = 0 := by unfold dlt; rw [if_neg q]
      rw [this]
      congr 4
      grind
  · by_cases q : (Lit.string x) = .string (keyB t.2)
    · injection q with q
      exact ⟨t.2, hl, hi, q⟩
    · rw [Maps.has_put_other q] at hx
      exact h.keys x hx
theorem size_put_le {D : DMap} (h : Tidy D) (k : Lit) (d : DMap) : Maps.size (D.put k d) ≤ Maps.size D + 1 := by
  rw [Maps.size_put h]
  split <;> omega
/-- the keys that were met, of numbers that are not nought -/
def CollNZ (D : DMap) (left : Lit → Bool) (ss : List (List UInt8)) : Prop := ss.Nodup ∧ ∀ x, x ∈ ss ↔ (has D (.string x) = true ∧ left (.string x) = false ∧ D.atKey (.string x) zeroD ≠ zeroD)
theorem CollNZ.start (D : DMap) : CollNZ D (has D) [] := ⟨List.nodup_nil, fun x => ⟨fun h => by simp at h, fun h => by rw [h.1] at h; simp at h⟩⟩
theorem CollNZ.in_ {D : DMap} {left : Lit → Bool} {ss : List (List UInt8)} (h : CollNZ D left ss) {x : List UInt8} {c : Int} (hlk : left (.string x) = true) (hat : ∀ zd, D.atKey (.string x) zd = .lit (.int .u64 c)) (hc : c ≠ 0) :
    CollNZ D (fun z => left z && !z.sameKey (.string x)) (ss ++ [x]) := by
  have hx : x ∉ ss := fun hx => by have := ((h.2 x).1 hx).2.1; rw [hlk] at this; cases this
  refine ⟨List.nodup_append.2 ⟨h.1, by simp, fun a ha b hb e => ?_⟩, fun y => ?_⟩
  · rw [List.mem_singleton] at hb; subst hb; subst e; exact hx ha
  · rw [List.mem_append, List.mem_singleton, h.2 y]
    have hs : ((Lit.string y).sameKey (.string x)) = decide (y = x) := by simp only [Lit.sameKey]; by_cases q : y = x <;> simp [q]
    show _ ↔ _ ∧ (left (.string y) && !(Lit.string y).sameKey (.string x)) = false ∧ _
    rw [hs]
    by_cases q : y = x
    · subst q
      simp only [decide_true, Bool.not_true, Bool.and_false, true_and, or_true, true_iff]
      exact ⟨Maps.has_true_of_atKey hat, by rw [hat]; intro e; injection e with e; injection e with _ e; exact hc e⟩
    · simp only [q, decide_false, Bool.not_false, Bool.and_true, or_false]
theorem CollNZ.out {D : DMap} {left : Lit → Bool} {ss : List (List UInt8)} (h : CollNZ D left ss) {x : List UInt8} (hlk : left (.string x) = true) (hat : ∀ zd, D.atKey (.string x) zd = .lit (.int .u64 0)) :
    CollNZ D (fun z => left z && !z.sameKey (.string x)) ss := by
  refine ⟨h.1, fun y => ?_⟩
  rw [h.2 y]
  have hs : ((Lit.string y).sameKey (.string x)) = decide (y = x) := by simp only [Lit.sameKey]; by_cases q : y = x <;> simp [q]
  show _ ↔ _ ∧ (left (.string y) && !(Lit.string y).sameKey (.string x)) = false ∧ _
  rw [hs]
  by_cases q : y = x
  · subst q
    rw [hat]
    simp
  · simp only [q, decide_false, Bool.not_false, Bool.and_true]
/-- a key's number -/
def cOf (D : DMap) (x : List UInt8) : UInt64 := match D.atKey (.string x) zeroD with | .lit (.int _ c) => UInt64.ofNat c.toNat | _ => 0
/-- keys, the greatest first -/
def downK (ss : List (List UInt8)) : List (List UInt8) := (ss.mergeSort leB).reverse
def outT (D : DMap) (ss : List (List UInt8)) : List Tm := (downK ss).map fun x => (cOf D x, powB x)
theorem outT_len (D : DMap) (ss : List (List UInt8)) : (outT D ss).length = ss.length := by simp [outT, downK]
theorem HeapIs.cOf {n : Nat} {D : DMap} {l : List Tm} (h : HeapIs n D l) {e : List Int} (h1 : e.length = n) (h2 : InE e) : cOf D (keyB e) = lin (dlt e) l := by
  unfold Go.Proofs.YtcamcnahkdiefaaGreat.cOf
  rw [h.at_ e h1 h2]
  show UInt64.ofNat ((lin (dlt e) l).toNat : Int).toNat = _
  rw [Int.toNat_natCast, UInt64.ofNat_toNat]
theorem canon_uniq_d {n : Nat} : ∀ (a b : List Tm), Canon n a → Canon n b → (∀ e, lin (dlt e) a = lin (dlt e) b) → a = b
  | [], [], _, _, _ => rfl
  | [], y :: b, _, hb, h => by
    have := h y.2
    rw [lin_dlt_head hb] at this
    exact absurd this.symm (hb.nz y List.mem_cons_self)
  | x :: a, [], ha, _, h => by
    have := h x.2
    rw [lin_dlt_head ha] at this
    exact absurd this (ha.nz x List.mem_cons_self)
  | x :: a, y :: b, ha, hb, h => by
    have hx := ha.len.head
    have hy := hb.len.head
    rcases ordR_val x.2 y.2 with hc | hc | hc
    · have h1 := h x.2
      rw [lin_dlt_head ha, lin_dlt_out x.2 _ (far_ne hx hb (by omega))] at h1
      exact absurd h1 (ha.nz x List.mem_cons_self)
    · have e : x.2 = y.2 := ordR_eq (by rw [hx, hy]) hc
      have h1 := h x.2
      rw [lin_dlt_head ha, e, lin_dlt_head hb] at h1
      have exy : x = y := Prod.ext h1 e
      rw [exy, canon_uniq_d a b ha.tail hb.tail (fun F => by
        have h2 := h F
        rw [lin, lin, exy] at h2
        grind)]
    · have hc' : ordR y.2 x.2 < 0 := by rw [ordR_anti]; omega
      have h1 := h y.2
      rw [lin_dlt_head hb, lin_dlt_out y.2 _ (far_ne hy ha hc')] at h1
      exact absurd h1.symm (hb.nz y List.mem_cons_self)
theorem lin_dlt_mem {n : Nat} : ∀ {l : List Tm}, Canon n l → ∀ t ∈ l, lin (dlt t.2) l = t.1
  | [], _, t, ht => by simp at ht
  | x :: l, h, t, ht => by
    rcases List.mem_cons.1 ht with rfl | ht
    · exact lin_dlt_head h
    · have hne := srt_ne h t ht
      rw [lin, lin_dlt_mem h.tail t ht]
      unfold dlt
      rw [if_neg (fun e => hne e.symm)]
      grind
theorem downK_srt {ss : List (List UInt8)} (h : ss.Nodup) : (downK ss).Pairwise fun x y => y < x := by
  have tr : ∀ a b c : List UInt8, leB a b = true → leB b c = true → leB a c = true := fun a b c h1 h2 => by simp only [leB, decide_eq_true_eq] at *; exact List.le_trans h1 h2
  have to : ∀ a b : List UInt8, (leB a b || leB b a) = true := fun a b => by simp only [leB, Bool.or_eq_true, decide_eq_true_eq]; exact List.le_total a b
  have h1 := List.pairwise_mergeSort tr to ss
  have h2 : (ss.mergeSort leB).Nodup := (List.mergeSort_perm ss leB).nodup_iff.2 h
  unfold downK
  rw [List.pairwise_reverse]
  refine (h1.and h2).imp fun {a b} hab => ?_
  have h3 : a ≤ b := by have := hab.1; simpa [leB] using this
  have h4 : a ≠ b := hab.2
  rcases List.le_iff_lt_or_eq.1 h3 with q | q
  · exact q
  · exact absurd q h4
theorem mem_downK {ss : List (List UInt8)} {x : List UInt8} : x ∈ downK ss ↔ x ∈ ss := by
  unfold downK
  rw [List.mem_reverse]
  exact (List.mergeSort_perm ss leB).mem_iff
theorem ordR_of_lt {e f : List Int} (he : InE e) (hf : InE f) (hl : e.length = f.length) (h : keyB f < keyB e) : ordR e f < 0 := by
  rcases ordR_val e f with q | q | q
  · omega
  · rw [ordR_eq hl q] at h; exact absurd h (List.lt_irrefl _)
  · have h1 := keyB_lt hf he hl.symm (by rw [ordR_anti]; omega)
    exact absurd h (List.lt_asymm h1)
/-- what comes of a map is the terms in order -/
theorem heap_out {n : Nat} {D : DMap} {l : List Tm} {left : Lit → Bool} {ss : List (List UInt8)} (h : HeapIs n D l) (hl : LenT n l) (hi : ∀ t ∈ l, InE t.2) (hC : CollNZ D left ss) (hl0 : ∀ kl, left kl = false) : outT D ss = sortT l := by
  have hk : ∀ x ∈ ss, ∃ e, e.length = n ∧ InE e ∧ x = keyB e := fun x hx => h.keys x ((hC.2 x).1 hx).1
  have hin : ∀ e, e.length = n → InE e → (keyB e ∈ ss ↔ lin (dlt e) l ≠ 0) := by
    intro e h1 h2
    rw [hC.2 (keyB e)]
    constructor
    · intro q e0
      apply q.2.2
      rw [h.at_ e h1 h2, e0]; rfl
    · intro q
      refine ⟨?_, hl0 _, ?_⟩
      · refine Decidable.by_contra fun hn => q ?_
        have hn' : has D (.string (keyB e)) = false := by simpa using hn
        have h3 := h.at_ e h1 h2
        rw [Maps.atKey_of_not_has hn'] at h3
        injection h3 with h3
        injection h3 with _ h3
        exact UInt64.toNat_inj.1 (by simpa using h3.symm)
      · rw [h.at_ e h1 h2]
        intro q2
        injection q2 with q2
        injection q2 with _ q2
        exact q (UInt64.toNat_inj.1 (by simpa using q2))
  have hcan : Canon n (outT D ss) := by
    refine ⟨?_, fun t ht => ?_, fun t ht => ?_⟩
    · unfold SrtT outT
      rw [List.pairwise_map]
      refine (downK_srt hC.1).imp_of_mem fun {x y} hx hy hlt => ?_
      obtain ⟨e, e1, e2, rfl⟩ := hk x (mem_downK.1 hx)
      obtain ⟨f, f1, f2, rfl⟩ := hk y (mem_downK.1 hy)
      show ordR (powB (keyB e)) (powB (keyB f)) < 0
      rw [powB_keyB e2, powB_keyB f2]
      exact ordR_of_lt e2 f2 (by omega) hlt
    · obtain ⟨x, hx, rfl⟩ := List.mem_map.1 ht
      have hx' := mem_downK.1 hx
      obtain ⟨e, e1, e2, rfl⟩ := hk x hx'
      show cOf D (keyB e) ≠ 0
      rw [h.cOf e1 e2]
      exact (hin e e1 e2).1 hx'
    · obtain ⟨x, hx, rfl⟩ := List.mem_map.1 ht
      obtain ⟨e, e1, e2, rfl⟩ := hk x (mem_downK.1 hx)
      show (powB (keyB e)).length = n
      rw [powB_keyB e2, e1]
  refine canon_uniq_d _ _ hcan (sortT_canon l hl) fun e => ?_
  rw [lin_sort _ l hl]
  by_cases hv : e.length = n ∧ InE e
  · obtain ⟨e1, e2⟩ := hv
    by_cases hm : keyB e ∈ ss
    · have h4 := lin_dlt_mem hcan (cOf D (keyB e), powB (keyB e)) (List.mem_map.2 ⟨keyB e, mem_downK.2 hm, rfl⟩)
      rw [show (cOf D (keyB e), powB (keyB e)).2 = e from powB_keyB e2] at h4
      rw [h4]; exact h.cOf e1 e2
    · have h0 : lin (dlt e) l = 0 := Decidable.by_contra fun q => hm ((hin e e1 e2).2 q)
      rw [h0]
      refine lin_dlt_out e _ fun t ht q => hm ?_
      obtain ⟨x, hx, rfl⟩ := List.mem_map.1 ht
      obtain ⟨f, f1, f2, rfl⟩ := hk x (mem_downK.1 hx)
      have q' : powB (keyB f) = e := q
      rw [powB_keyB f2] at q'
      subst q'
      exact mem_downK.1 hx
  · rw [lin_dlt_out e l (fun t ht q => hv ⟨by rw [← q]; exact hl t ht, by rw [← q]; exact hi t ht⟩)]
    refine lin_dlt_out e _ fun t ht q => hv ?_
    obtain ⟨x, hx, rfl⟩ := List.mem_map.1 ht
    obtain ⟨f, f1, f2, rfl⟩ := hk x (mem_downK.1 hx)
    have q' : powB (keyB f) = e := q
    rw [powB_keyB f2] at q'
    subst q'
    exact ⟨f1, f2⟩
end Go.Proofs.YtcamcnahkdiefaaGreat

/- Maps at a step of a region that draws its order; maps of the call's own. -/
namespace Go.Proofs.YtcamcnahkdiefaaGreat
set_option linter.unusedVariables false
set_option linter.unusedSimpArgs false
open Go.RowKit Go.Maps
section
variable {H : Type} {P : Program} {ops : Array Oper} {o : Oper} {act : Act} {K : Act → World → Prop} {Q : Exit → Act → World → Prop} {E' : Prop}
theorem step_lookup {w : World} {m x : Operand} {t : TypeId} (hgd : o.guard = none) (hop : o.op = Op.lookup t m x false)
    {k e : TypeId} {q : IntKind} (L : Keyed P k) (ht : P.underlying t = some (.map k e)) (he : P.underlying e = some (.int q)) (hz : (zeroValue e).run P w = .ok (.int q 0) w) {b n : Nat} {D : DataW H}
    (hm : act.eval m = .map (some b)) (hown : w.ownsMap P k (plainElem P e) b n D) {key : Value} {kl : Lit} (hx : act.eval x = key) (hkey : keyOf P k key = some kl)
    (hK : ∀ c : Int, D.atKey kl (.lit (.int q 0)) = .lit (.int q c) → (Lit.int q c).wf = true → K (act.put o.dst (.int q c)) w) :
    if Region.wanted o (yielded ops act.tmps) = true then Oper.wp P o act w K Q else E' := by
  have hw : Region.wanted o (yielded ops act.tmps) = true := by simp [Region.wanted, hgd]
  rw [if_pos hw]
  obtain ⟨c, hrun, hat, hwc⟩ := hown.lookup_int L ht he hz hkey
  unfold Oper.wp
  simp [execOp, hop, hm, hx, hrun, Result.andThen]
  exact hK c hat hwc
theorem step_mapUpdate {w : World} {m x v : Operand} {t : TypeId} (hgd : o.guard = none) (hop : o.op = Op.mapUpdate t m x v)
    {k e : TypeId} (L : Keyed P k) (ht : P.underlying t = some (.map k e)) {R : Value → Option (DataW H × List MemPlace)} {b n : Nat} {D : DataW H}
    (hm : act.eval m = .map (some b)) (hown : w.ownsMap P k R b n D) (hn : n < maxLen) {key val : Value} {kl : Lit} (hx : act.eval x = key) (hv : act.eval v = val) (hkey : keyOf P k key = some kl)
    {d : DataW H} {ps : List MemPlace} (hval : R val = some (d, ps))
    (hK : ∀ w', w'.ownsMap P k R b (n + 1) (D.put kl d) → w.grownBy w' (some b) → K (act.put o.dst undef) w') :
    if Region.wanted o (yielded ops act.tmps) = true then Oper.wp P o act w K Q else E' := by
  have hw : Region.wanted o (yielded ops act.tmps) = true := by simp [Region.wanted, hgd]
  rw [if_pos hw]
  obtain ⟨w', hrun, r1, r2⟩ := hown.update L ht hn hkey hval
  unfold Oper.wp
  simp [execOp, hop, hm, hx, hv, hrun, Result.andThen]
  exact hK w' r1 r2
end
/-- A byte. -/
instance : Flat UInt8 := ⟨1, fun x => [.int .u8 (x.toNat : Int)], fun _ => rfl, fun x u hu => by simp at hu; subst hu; rfl, by decide⟩
end Go.Proofs.YtcamcnahkdiefaaGreat
