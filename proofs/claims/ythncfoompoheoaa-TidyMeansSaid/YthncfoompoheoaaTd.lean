/- Plain facts on programs made smaller: without what is not needed, opened, both; that a run leaves the same in what is wanted. No program is named here. -/
import Derived.Test.YthncfoompoheoaaLv
namespace Go.Proofs.Ythncfoompoheoaa
set_option linter.unusedVariables false
set_option linter.unusedSimpArgs false
open Go.RowKit

/-- A forest whose writes bear labels. -/
inductive LF where
  | nil
  | leaf (op : OpD) (i : Nat) (rest : LF)
  | rep (op : OpD) (body : LF) (fin : OpD) (rest : LF)
namespace LF
def fo : LF → Fo
  | nil => .nil
  | leaf op _ r => .leaf op (fo r)
  | rep op b fin r => .rep op (fo b) fin (fo r)
def labs : LF → List Nat
  | nil => []
  | leaf _ i r => i :: labs r
  | rep _ b _ r => labs b ++ labs r
def unr : LF → List (Nat × OpD)
  | nil => []
  | leaf op i r => (i, op) :: unr r
  | rep op b _ r => (List.replicate op.v.toNat (unr b)).flatten ++ unr r
def sift (ok : Nat → Bool) : LF → LF
  | nil => nil
  | leaf op i r => if ok i = true then leaf op i (sift ok r) else sift ok r
  | rep op b fin r => rep op (sift ok b) fin (sift ok r)
def app : LF → LF → LF
  | nil, g => g
  | leaf op i r, g => leaf op i (app r g)
  | rep op b fin r, g => rep op b fin (app r g)
def opn : LF → LF
  | nil => nil
  | leaf op i r => leaf op i (opn r)
  | rep op b fin r => if b.fo.wr * op.v.toNat = 0 then opn r else if op.v.toNat = 1 then app (opn b) (opn r) else rep op (opn b) fin (opn r)
theorem fo_app (f g : LF) : (f.app g).fo = f.fo.app g.fo := by
  induction f with
  | nil => rfl
  | leaf op i r ih => simp [app, fo, Fo.app, ih]
  | rep op b fin r _ ih => simp [app, fo, Fo.app, ih]
theorem unr_app (f g : LF) : (f.app g).unr = f.unr ++ g.unr := by
  induction f with
  | nil => rfl
  | leaf op i r ih => simp [app, unr, ih]
  | rep op b fin r _ ih => simp [app, unr, ih]
theorem labs_app (f g : LF) : (f.app g).labs = f.labs ++ g.labs := by
  induction f with
  | nil => rfl
  | leaf op i r ih => simp [app, labs, ih]
  | rep op b fin r _ ih => simp [app, labs, ih]
theorem unr_fo (f : LF) : f.unr.map (·.2) = f.fo.unroll := by
  induction f with
  | nil => rfl
  | leaf op i r ih => simp [unr, fo, Fo.unroll, ih]
  | rep op b fin r ihb ihr =>
    simp only [unr, fo, Fo.unroll, List.map_append, ihr]
    congr 1
    generalize op.v.toNat = n
    induction n with
    | zero => rfl
    | succ n ih => simp only [List.replicate_succ, List.flatten_cons, List.map_append, ihb, ih]
theorem filter_rep {α : Type} (p : α → Bool) (n : Nat) (l : List α) : (List.replicate n l).flatten.filter p = (List.replicate n (l.filter p)).flatten := by
  induction n with
  | zero => rfl
  | succ n ih => simp only [List.replicate_succ, List.flatten_cons, List.filter_append, ih]
theorem unr_sift (ok : Nat → Bool) (f : LF) : (f.sift ok).unr = f.unr.filter (fun p => ok p.1) := by
  induction f with
  | nil => rfl
  | leaf op i r ih =>
    simp only [sift, unr, List.filter_cons]
    by_cases h : ok i = true
    · simp only [h, if_true, unr, ih]
    · simp only [h, if_false]; simpa using ih
  | rep op b fin r ihb ihr => simp only [sift, unr, ihb, ihr, List.filter_append, filter_rep]
theorem nil_of_wr (f : LF) (h : f.fo.wr = 0) : f.unr = [] := by
  have : f.unr.length = 0 := by
    have := congrArg List.length (unr_fo f)
    rw [List.length_map, Fo.unroll_length, h] at this
    exact this
  exact List.eq_nil_of_length_eq_zero this
theorem unr_opn (f : LF) : f.opn.unr = f.unr := by
  induction f with
  | nil => rfl
  | leaf op i r ih => simp [opn, unr, ih]
  | rep op b fin r ihb ihr =>
    unfold opn
    split
    · rename_i h
      rw [unr, ihr]
      rcases Nat.mul_eq_zero.1 h with h | h
      · rw [nil_of_wr b h]; simp
      · rw [h]; simp
    · split
      · rename_i h; rw [unr_app, unr, h, ihb, ihr]; simp
      · simp [unr, ihb, ihr]
theorem labs_sift (ok : Nat → Bool) (f : LF) : (f.sift ok).labs = f.labs.filter ok := by
  induction f with
  | nil => rfl
  | leaf op i r ih =>
    simp only [sift, labs, List.filter_cons]
    by_cases h : ok i = true
    · simp only [h, if_true, labs, ih]
    · simp only [h, if_false]; simpa using ih
  | rep op b fin r ihb ihr => simp only [sift, labs, ihb, ihr, List.filter_append]
theorem labs_opn (f : LF) : f.opn.labs.Sublist f.labs := by
  induction f with
  | nil => exact List.Sublist.refl _
  | leaf op i r ih => exact ih.cons_cons i
  | rep op b fin r ihb ihr =>
    unfold opn
    split
    · exact ihr.trans (List.sublist_append_right _ _)
    · split
      · rw [labs_app]; exact ihb.append ihr
      · exact ihb.append ihr
end LF
/-- labelled by places -/
def Fo.lab : Nat → Fo → LF
  | _, .nil => .nil
  | o, .leaf op r => .leaf op o (lab (o + 1) r)
  | o, .rep op b fin r => .rep op (lab (o + 1) b) fin (lab (o + b.size + 2) r)
theorem Fo.lab_fo (f : Fo) (o : Nat) : (f.lab o).fo = f := by
  induction f generalizing o with
  | nil => rfl
  | leaf op r ih => simp [lab, LF.fo, ih]
  | rep op b fin r ihb ihr => simp [lab, LF.fo, ihb, ihr]
theorem Fo.lab_unr (f : Fo) (o : Nat) : (f.lab o).unr.map (·.1) = f.pls o := by
  induction f generalizing o with
  | nil => rfl
  | leaf op r ih => simp [lab, LF.unr, pls, ih]
  | rep op b fin r ihb ihr =>
    simp only [lab, LF.unr, pls, List.map_append, ihr]
    congr 1
    generalize op.v.toNat = n
    induction n with
    | zero => rfl
    | succ n ih => simp only [List.replicate_succ, List.flatten_cons, List.map_append, ihb, ih]
theorem Fo.lab_zl (f : Fo) : (f.lab 0).unr = f.zl := by
  unfold Fo.zl
  rw [← Fo.lab_unr, ← (show ((f.lab 0).unr.map (·.2)) = f.unroll by rw [LF.unr_fo, Fo.lab_fo])]
  generalize (f.lab 0).unr = l
  induction l with
  | nil => rfl
  | cons p l ih => rw [List.map_cons, List.map_cons, List.zip_cons_cons, ← ih]
/-- the places of writes -/
theorem Fo.lab_labs_bd (f : Fo) (o : Nat) : ∀ i ∈ (f.lab o).labs, o ≤ i ∧ i < o + f.size := by
  induction f generalizing o with
  | nil => intro i h; cases h
  | leaf op r ih =>
    intro i h
    rw [Fo.size_leaf]
    rcases List.mem_cons.1 h with rfl | h
    · omega
    · have := ih _ i h; omega
  | rep op b fin r ihb ihr =>
    intro i h
    rw [Fo.size_rep]
    rcases List.mem_append.1 h with h | h
    · have := ihb _ i h; omega
    · have := ihr _ i h; omega
theorem Fo.lab_nodup (f : Fo) (o : Nat) : (f.lab o).labs.Nodup := by
  induction f generalizing o with
  | nil => exact List.nodup_nil
  | leaf op r ih =>
    refine List.nodup_cons.2 ⟨fun h => ?_, ih _⟩
    have := Fo.lab_labs_bd r (o + 1) o h
    omega
  | rep op b fin r ihb ihr =>
    refine List.nodup_append.2 ⟨ihb _, ihr _, fun i hi j hj => ?_⟩
    have := Fo.lab_labs_bd b _ i hi
    have := Fo.lab_labs_bd r _ j hj
    omega
/-- which places stay -/
def staysF (keep : Nat → Bool) : Nat → List OpD → List OpD
  | _, [] => []
  | o, x :: r => if (keep o || (decide (x.kind = 7) || decide (x.kind = 0))) = true then x :: staysF keep (o + 1) r else staysF keep (o + 1) r
theorem staysF_append (keep : Nat → Bool) (a b : List OpD) (o : Nat) : staysF keep o (a ++ b) = staysF keep o a ++ staysF keep (o + a.length) b := by
  induction a generalizing o with
  | nil => rfl
  | cons x r ih =>
    simp only [List.cons_append, staysF, List.length_cons, ih]
    rw [show o + 1 + r.length = o + (r.length + 1) by omega]
    split <;> rfl
theorem Fo.sift_flat (f : Fo) (hf : f.ok) (keep : Nat → Bool) (o : Nat) : staysF keep o f.flat = ((f.lab o).sift keep).fo.flat := by
  induction f generalizing o with
  | nil => rfl
  | leaf op r ih =>
    obtain ⟨h1, h2, h3⟩ := hf
    simp only [flat, staysF, lab, LF.sift, ih h3]
    rw [show (keep o || (decide (op.kind = 7) || decide (op.kind = 0))) = keep o by
      rw [show decide (op.kind = 7) = false by simp <;> omega, show decide (op.kind = 0) = false by simp <;> omega]; simp]
    split
    · rfl
    · rfl
  | rep op b fin r ihb ihr =>
    obtain ⟨h1, h2, h3, h4⟩ := hf
    have hbs : b.flat.length = b.size := rfl
    show staysF keep o (op :: (b.flat ++ fin :: r.flat)) = op :: (((b.lab (o + 1)).sift keep).fo.flat ++ fin :: ((r.lab (o + b.size + 2)).sift keep).fo.flat)
    rw [staysF, if_pos (by simp [h1]), staysF_append, ihb h2, staysF, if_pos (by simp [h3]), hbs, show o + 1 + b.size + 1 = o + b.size + 2 by omega, ihr h4]
/-- opened -/
def Fo.opn : Fo → Fo
  | .nil => .nil
  | .leaf op r => .leaf op (opn r)
  | .rep op b fin r => if b.wr * op.v.toNat = 0 then opn r else if op.v.toNat = 1 then (opn b).app (opn r) else .rep op (opn b) fin (opn r)
theorem LF.fo_opn (f : LF) : f.opn.fo = f.fo.opn := by
  induction f with
  | nil => rfl
  | leaf op i r ih => simp [opn, fo, Fo.opn, ih]
  | rep op b fin r ihb ihr =>
    simp only [opn, fo, Fo.opn]
    split
    · exact ihr
    · split
      · rw [fo_app, ihb, ihr]
      · simp [fo, ihb, ihr]

/-! ### They may be -/
theorem Fo.opn_props (f : Fo) (hf : f.ok) : f.opn.ok ∧ f.opn.size ≤ f.size ∧ f.opn.wr = f.wr ∧ f.opn.dp ≤ f.dp ∧ (∀ x ∈ f.opn.flat, x ∈ f.flat) ∧ (f.may = true → f.opn.may = true) := by
  induction f with
  | nil => exact ⟨trivial, Nat.le_refl _, rfl, Nat.le_refl _, fun x h => h, fun h => h⟩
  | leaf op r ih =>
    obtain ⟨h1, h2, h3⟩ := hf
    obtain ⟨i1, i2, i3, i4, i5, i6⟩ := ih h3
    refine ⟨⟨h1, h2, i1⟩, by simp only [opn, size_leaf]; omega, by simp [opn, wr, i3], i4, fun x h => ?_, i6⟩
    simp only [opn, flat, List.mem_cons] at h ⊢
    exact h.imp id (i5 x)
  | rep op b fin r ihb ihr =>
    obtain ⟨h1, h2, h3, h4⟩ := hf
    obtain ⟨b1, b2, b3, b4, b5, b6⟩ := ihb h2
    obtain ⟨r1, r2, r3, r4, r5, r6⟩ := ihr h4
    have hm : (Fo.rep op b fin r).may = true → b.may = true ∧ b.wr ≤ 65536 ∧ b.wr * op.v.toNat ≤ 65536 ∧ r.may = true := by
      intro h
      simp only [may, Bool.and_eq_true, decide_eq_true_eq] at h
      exact ⟨h.1.1.1, h.1.1.2, h.1.2, h.2⟩
    unfold opn
    split
    · rename_i h0
      refine ⟨r1, by rw [size_rep]; omega, by rw [r3, wr, h0]; simp, by simp only [dp]; omega, fun x h => ?_, fun h => r6 (hm h).2.2.2⟩
      simp only [flat, List.mem_cons, List.mem_append]
      exact .inr (.inr (.inr (r5 x h)))
    · split
      · rename_i h0 hv1
        refine ⟨ok_app b1 r1, ?_, by rw [wr_app, b3, r3, wr, hv1]; simp, by rw [dp_app]; simp only [dp]; omega, fun x h => ?_, fun h => by rw [may_app, b6 (hm h).1, r6 (hm h).2.2.2]; rfl⟩
        · have : (b.opn.app r.opn).size = b.opn.size + r.opn.size := by simp [size, flat_app]
          rw [this, size_rep]; omega
        · rw [flat_app] at h
          simp only [flat, List.mem_cons, List.mem_append] at h ⊢
          rcases h with h | h
          · exact .inr (.inl (b5 x h))
          · exact .inr (.inr (.inr (r5 x h)))
      · refine ⟨⟨h1, b1, h3, r1⟩, by rw [size_rep, size_rep]; omega, by simp [wr, b3, r3], by simp only [dp]; omega, fun x h => ?_, fun h => ?_⟩
        · simp only [flat, List.mem_cons, List.mem_append] at h ⊢
          rcases h with h | h | h | h
          · exact .inl h
          · exact .inr (.inl (b5 x h))
          · exact .inr (.inr (.inl h))
          · exact .inr (.inr (.inr (r5 x h)))
        · obtain ⟨m1, m2, m3, m4⟩ := hm h
          simp only [may, Bool.and_eq_true, decide_eq_true_eq]
          exact ⟨⟨⟨b6 m1, by rw [b3]; exact m2⟩, by rw [b3]; exact m3⟩, r6 m4⟩
theorem LF.sift_props (f : LF) (keep : Nat → Bool) (hf : f.fo.ok) : (f.sift keep).fo.ok ∧ (f.sift keep).fo.size ≤ f.fo.size ∧ (f.sift keep).fo.wr ≤ f.fo.wr ∧ (f.sift keep).fo.dp ≤ f.fo.dp ∧ (∀ x ∈ (f.sift keep).fo.flat, x ∈ f.fo.flat) ∧ (f.fo.may = true → (f.sift keep).fo.may = true) := by
  induction f with
  | nil => exact ⟨trivial, Nat.le_refl _, Nat.le_refl _, Nat.le_refl _, fun x h => h, fun h => h⟩
  | leaf op i r ih =>
    obtain ⟨h1, h2, h3⟩ := hf
    obtain ⟨i1, i2, i3, i4, i5, i6⟩ := ih h3
    unfold sift
    split
    · refine ⟨⟨h1, h2, i1⟩, by simp only [fo, Fo.size_leaf]; omega, by simp only [fo, Fo.wr]; omega, i4, fun x h => ?_, i6⟩
      simp only [fo, Fo.flat, List.mem_cons] at h ⊢
      exact h.imp id (i5 x)
    · refine ⟨i1, by simp only [fo, Fo.size_leaf]; omega, by simp only [fo, Fo.wr]; omega, i4, fun x h => ?_, i6⟩
      simp only [fo, Fo.flat, List.mem_cons]
      exact .inr (i5 x h)
  | rep op b fin r ihb ihr =>
    obtain ⟨h1, h2, h3, h4⟩ := hf
    obtain ⟨b1, b2, b3, b4, b5, b6⟩ := ihb h2
    obtain ⟨r1, r2, r3, r4, r5, r6⟩ := ihr h4
    have hmul : (b.sift keep).fo.wr * op.v.toNat ≤ b.fo.wr * op.v.toNat := Nat.mul_le_mul_right _ b3
    refine ⟨⟨h1, b1, h3, r1⟩, by simp only [sift, fo, Fo.size_rep]; omega, by simp only [sift, fo, Fo.wr]; omega, by simp only [sift, fo, Fo.dp]; omega, fun x h => ?_, fun h => ?_⟩
    · simp only [sift, fo, Fo.flat, List.mem_cons, List.mem_append] at h ⊢
      rcases h with h | h | h | h
      · exact .inl h
      · exact .inr (.inl (b5 x h))
      · exact .inr (.inr (.inl h))
      · exact .inr (.inr (.inr (r5 x h)))
    · simp only [fo, Fo.may, Bool.and_eq_true, decide_eq_true_eq] at h
      simp only [sift, fo, Fo.may, Bool.and_eq_true, decide_eq_true_eq]
      exact ⟨⟨⟨b6 h.1.1.1, by omega⟩, by omega⟩, r6 h.2⟩
theorem Good.opn {regs : Int} {f : Fo} (g : Good regs f) : Good regs f.opn := by
  obtain ⟨h1, h2, h3, h4, h5, h6⟩ := f.opn_props g.ok
  exact ⟨h1, Nat.le_trans h2 g.len, fun x hx => g.right x (h5 x hx), g.r1, g.r2, fun x hx => g.off x (h5 x hx), Nat.le_trans h4 g.deep, h6 g.may, by rw [h3]; exact g.few⟩
theorem Good.sift {regs : Int} {f : Fo} (g : Good regs f) (keep : Nat → Bool) : Good regs ((f.lab 0).sift keep).fo := by
  have := (f.lab 0).sift_props keep (by rw [Fo.lab_fo]; exact g.ok)
  rw [Fo.lab_fo] at this
  obtain ⟨h1, h2, h3, h4, h5, h6⟩ := this
  exact ⟨h1, Nat.le_trans h2 g.len, fun x hx => g.right x (h5 x hx), g.r1, g.r2, fun x hx => g.off x (h5 x hx), Nat.le_trans h4 g.deep, h6 g.may, Nat.le_trans h3 g.few⟩

/-! ### What is not needed may go -/
def flagF (l : List Bool) (i : Nat) : Bool := (l[i]?).getD false
/-- Once needed, needed. -/
theorem lvRun_keeps (Z : List (Nat × OpD)) (s : Lv) (i : Nat) (h : flagF s.ops i = true) : flagF (lvRun Z s).ops i = true := by
  induction Z with
  | nil => exact h
  | cons p Z ih =>
    rw [lvRun_cons]
    unfold lvStep
    split
    · unfold flagF at *
      simp only
      rw [List.getElem?_set]
      split
      · split
        · rfl
        · rw [List.getElem?_eq_none (by omega)] at ih; cases ih
      · exact ih
    · exact ih
/-- What is wanted, without what is never needed. -/
theorem lvRun_filter (keep : Nat → Bool) (Z : List (Nat × OpD)) (s t : Lv) (hw : s.want = t.want) (h : ∀ i, flagF (lvRun Z s).ops i = true → keep i = true) (hb : ∀ p ∈ Z, p.1 < s.ops.length) :
    (lvRun (Z.filter (fun p => keep p.1)) t).want = (lvRun Z s).want := by
  induction Z with
  | nil => exact hw.symm
  | cons p Z ih =>
    have h' : ∀ i, flagF (lvRun Z s).ops i = true → keep i = true := fun i hi => h i (by
      have := lvRun_keeps [p] (lvRun Z s) i hi
      exact this)
    have i1 := ih h' (fun q hq => hb q (by simp [hq]))
    rw [lvRun_cons, lvStep_want, ← i1]
    by_cases hk : keep p.1 = true
    · rw [List.filter_cons, if_pos hk, lvRun_cons, lvStep_want]
    · rw [List.filter_cons, if_neg hk]
      unfold wantS
      by_cases hg : getB (lvRun (Z.filter fun p => keep p.1) t).want p.2.d = true
      · exfalso
        refine hk (h p.1 ?_)
        rw [lvRun_cons]
        unfold lvStep
        rw [i1] at hg
        rw [if_pos hg]
        unfold flagF
        simp only
        rw [List.getElem?_set, if_pos rfl, if_pos (by rw [(lvRun_lengths Z s).2.1]; exact hb p (by simp))]
        rfl
      · rw [if_neg hg]
theorem run_filter (keep : Nat → Bool) {regs : Int} (Z : List (Nat × OpD)) (hZ : ∀ p ∈ Z, InR regs p.2) (s : Lv) (hs : (s.want.length : Int) = regs) (h : ∀ i, flagF (lvRun Z s).ops i = true → keep i = true) (hb : ∀ p ∈ Z, p.1 < s.ops.length) :
    ∀ (r q : List UInt64), (r.length : Int) = regs → (q.length : Int) = regs → agree (lvRun Z s).want r q → agree s.want (runR (Z.map (·.2)) r) (runR ((Z.filter (fun p => keep p.1)).map (·.2)) q) := by
  induction Z with
  | nil => intro r q _ _ h; exact h
  | cons p Z ih =>
    intro r q hr hq ha
    have h' : ∀ i, flagF (lvRun Z s).ops i = true → keep i = true := fun i hi => h i (lvRun_keeps [p] (lvRun Z s) i hi)
    have i1 := ih (fun y hy => hZ y (by simp [hy])) h' (fun y hy => hb y (by simp [hy]))
    have hp := hZ p (by simp)
    have hl := (lvRun_lengths Z s).1
    rw [lvRun_cons, lvStep_want] at ha
    by_cases hk : keep p.1 = true
    · rw [List.filter_cons, if_pos hk]
      exact i1 _ _ (by rw [stepR_length]; exact hr) (by rw [stepR_length]; exact hq) (agree_step hp (by omega) hr hq ha)
    · rw [List.filter_cons, if_neg hk]
      have hg : getB (lvRun Z s).want p.2.d ≠ true := by
        intro hg
        refine hk (h p.1 ?_)
        rw [lvRun_cons]
        unfold lvStep
        rw [if_pos hg]
        unfold flagF
        simp only
        rw [List.getElem?_set, if_pos rfl, if_pos (by rw [(lvRun_lengths Z s).2.1]; exact hb p (by simp))]
        rfl
      unfold wantS at ha
      rw [if_neg hg] at ha
      exact i1 _ _ (by rw [stepR_length]; exact hr) hq (agree_skip hp hr hg ha)
end Go.Proofs.Ythncfoompoheoaa
