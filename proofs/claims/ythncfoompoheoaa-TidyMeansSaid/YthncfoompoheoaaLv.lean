/- Plain facts on what is wanted: which writes are needed, which registers at first. No program is named here. -/
import Derived.Test.YthncfoompoheoaaQb
namespace Go.Proofs.Ythncfoompoheoaa
set_option linter.unusedVariables false
set_option linter.unusedSimpArgs false
open Go.RowKit

def getB (w : List Bool) (i : Int) : Bool := (w[i.toNat]?).getD false
def markL (w : List Bool) (l : List Int) : List Bool := l.foldl (fun w i => w.set i.toNat true) w
theorem markL_length (w : List Bool) (l : List Int) : (markL w l).length = w.length := by
  induction l generalizing w with
  | nil => rfl
  | cons i l ih => show (markL (w.set i.toNat true) l).length = _; rw [ih]; simp
theorem getB_set (w : List Bool) (i j : Int) (b : Bool) (hi : i.toNat < w.length) : getB (w.set i.toNat b) j = if i.toNat = j.toNat then b else getB w j := by
  unfold getB
  rw [List.getElem?_set]
  by_cases h : i.toNat = j.toNat
  · rw [if_pos h, if_pos h, if_pos (by omega)]; rfl
  · rw [if_neg h, if_neg h]
theorem getB_mark (w : List Bool) (l : List Int) (j : Int) (hl : ∀ i ∈ l, 0 ≤ i ∧ i.toNat < w.length) (hj : 0 ≤ j) : getB (markL w l) j = (getB w j || decide (j ∈ l)) := by
  induction l generalizing w with
  | nil => simp [markL]
  | cons i l ih =>
    show getB (markL (w.set i.toNat true) l) j = _
    rw [ih _ (fun k hk => by simpa using hl k (by simp [hk])), getB_set _ _ _ _ (hl i (by simp)).2]
    have h0 := (hl i (by simp)).1
    by_cases h : i = j
    · subst h; simp
    · rw [if_neg (by omega)]
      by_cases h2 : j ∈ l
      · simp [h2]
      · simp [h2]; exact fun e => absurd e.symm h
/-- What is wanted ahead of a write. -/
def wantS (x : OpD) (w : List Bool) : List Bool := if getB w x.d = true then markL (w.set x.d.toNat false) (readsL x) else w
theorem wantS_length (x : OpD) (w : List Bool) : (wantS x w).length = w.length := by unfold wantS; split <;> simp [markL_length]
/-- The state behind which all is told: what is wanted, which places are needed, how many writes. -/
structure Lv where
  want : List Bool
  ops : List Bool
  count : Nat
def lvStep (p : Nat × OpD) (s : Lv) : Lv := if getB s.want p.2.d = true then ⟨wantS p.2 s.want, s.ops.set p.1 true, s.count + 1⟩ else s
def lvRun (Z : List (Nat × OpD)) (s : Lv) : Lv := Z.foldr lvStep s
theorem lvRun_cons (p : Nat × OpD) (Z : List (Nat × OpD)) (s : Lv) : lvRun (p :: Z) s = lvStep p (lvRun Z s) := rfl
theorem lvRun_append (a b : List (Nat × OpD)) (s : Lv) : lvRun (a ++ b) s = lvRun a (lvRun b s) := List.foldr_append ..
theorem lvStep_want (p : Nat × OpD) (s : Lv) : (lvStep p s).want = wantS p.2 s.want := by
  unfold lvStep
  split
  · rfl
  · rename_i h; unfold wantS; rw [if_neg h]
theorem lvRun_want (Z : List (Nat × OpD)) (s : Lv) : (lvRun Z s).want = (Z.map (·.2)).foldr wantS s.want := by
  induction Z with
  | nil => rfl
  | cons p Z ih => rw [lvRun_cons, lvStep_want, ih]; rfl
theorem lvRun_lengths (Z : List (Nat × OpD)) (s : Lv) : (lvRun Z s).want.length = s.want.length ∧ (lvRun Z s).ops.length = s.ops.length ∧ (lvRun Z s).count ≤ s.count + Z.length := by
  induction Z with
  | nil => exact ⟨rfl, rfl, Nat.le_refl _⟩
  | cons p Z ih =>
    rw [lvRun_cons]
    refine ⟨by rw [lvStep_want, wantS_length]; exact ih.1, ?_, ?_⟩
    · unfold lvStep; split <;> simp [ih.2.1]
    · unfold lvStep; split <;> simp only [List.length_cons] <;> have := ih.2.2 <;> omega
/-- the places of writes, unrolled -/
def Fo.pls : Nat → Fo → List Nat
  | _, .nil => []
  | o, .leaf _ r => o :: pls (o + 1) r
  | o, .rep op b _ r => (List.replicate op.v.toNat (pls (o + 1) b)).flatten ++ pls (o + b.size + 2) r
theorem Fo.pls_length (f : Fo) (o : Nat) : (f.pls o).length = f.wr := by
  induction f generalizing o with
  | nil => rfl
  | leaf op r ih => simp [pls, wr, ih]
  | rep op b fin r ihb ihr => rw [pls, List.length_append, length_rep, ihb, ihr]; rfl
theorem Fo.pls_at (f : Fo) (hf : f.ok) : ∀ (o : Nat) (l pre post : List OpD), l = pre ++ f.flat ++ post → pre.length = o → (f.pls o).map (fun i => l[i]?) = f.unroll.map some ∧ ∀ i ∈ f.pls o, o ≤ i ∧ i < o + f.size := by
  induction f with
  | nil => intro o l pre post _ _; exact ⟨rfl, fun i h => by cases h⟩
  | leaf op r ih =>
    intro o l pre post hl hp
    obtain ⟨h1, h2, h3⟩ := hf
    obtain ⟨i1, i2⟩ := ih h3 (o + 1) l (pre ++ [op]) post (by rw [hl]; simp [flat]) (by simp [hp])
    refine ⟨?_, fun i hi => ?_⟩
    · simp only [pls, unroll, List.map_cons, i1]
      congr 1
      subst hp
      rw [hl]; simp [flat]
    · rw [Fo.size_leaf]
      rcases List.mem_cons.1 hi with rfl | hi
      · omega
      · have := i2 i hi; omega
  | rep op b fin r ihb ihr =>
    intro o l pre post hl hp
    obtain ⟨h1, h2, h3, h4⟩ := hf
    obtain ⟨b1, b2⟩ := ihb h2 (o + 1) l (pre ++ [op]) (fin :: (r.flat ++ post)) (by rw [hl]; simp [flat]) (by simp [hp])
    have hbs : b.size = b.flat.length := rfl
    obtain ⟨r1, r2⟩ := ihr h4 (o + b.size + 2) l (pre ++ op :: (b.flat ++ [fin])) post (by rw [hl]; simp [flat]) (by simp [hp] <;> omega)
    refine ⟨?_, fun i hi => ?_⟩
    · simp only [pls, unroll, List.map_append, r1]
      congr 1
      generalize op.v.toNat = n
      induction n with
      | zero => rfl
      | succ n ih => simp only [List.replicate_succ, List.flatten_cons, List.map_append, b1, ih]
    · rw [Fo.size_rep]
      rcases List.mem_append.1 hi with hi | hi
      · obtain ⟨q, hq, hi⟩ := List.mem_flatten.1 hi
        obtain rfl := List.eq_of_mem_replicate hq
        have := b2 i hi; omega
      · have := r2 i hi; omega
/-- places and operations -/
def Fo.zl (f : Fo) : List (Nat × OpD) := (f.pls 0).zip f.unroll
theorem Fo.zl_ops (f : Fo) : f.zl.map (·.2) = f.unroll := by
  unfold Fo.zl
  rw [List.map_snd_zip]
  rw [Fo.pls_length, Fo.unroll_length]; exact Nat.le_refl _
theorem Fo.zl_pls (f : Fo) : f.zl.map (·.1) = f.pls 0 := by
  unfold Fo.zl
  rw [List.map_fst_zip]
  rw [Fo.pls_length, Fo.unroll_length]; exact Nat.le_refl _
/-- the registers outs are there -/
def outsB (regs : Int) (outs : List Int) : Bool := outs.all (fun k => decide (0 ≤ k) && decide (k < regs))
def lv0 (regs n : Nat) (outs : List Int) : Lv := ⟨markL (List.replicate regs false) outs, List.replicate n false, 0⟩
/-- what is found -/
def Fo.look (f : Fo) (regs : Int) (outs : List Int) : Lv := lvRun f.zl (lv0 regs.toNat f.size outs)
/-- the numbers of what is wanted, rising -/
def trues (w : List Bool) : List Int := ((List.range w.length).filter (fun i => (w[i]?).getD false)).map (fun (i : Nat) => (i : Int))

/-! ### A run hangs on what is wanted -/
theorem applyU_reads (x : OpD) (a b a' b' : UInt64) (ha : aOf x.kind = true → a = a') (hb : bOf x.kind = true → b = b') : applyU x a b = applyU x a' b' := by
  unfold applyU
  by_cases h1 : x.kind = 1
  · rw [ha (by rw [h1]; rfl), hb (by rw [h1]; rfl)]
  · by_cases h2 : x.kind = 2
    · rw [ha (by rw [h2]; rfl), hb (by rw [h2]; rfl)]
    · by_cases h3 : x.kind = 3
      · rw [ha (by rw [h3]; rfl), hb (by rw [h3]; rfl)]
      · by_cases h4 : x.kind = 4
        · rw [ha (by rw [h4]; rfl)]; simp [h4]
        · by_cases h6 : x.kind = 6
          · rw [ha (by rw [h6]; rfl)]; simp [h6]
          · simp [h1, h2, h3, h4, h6]
theorem getR_set' (r : List UInt64) (i j : Int) (v : UInt64) (hi : i.toNat < r.length) : getR (r.set i.toNat v) j = if i.toNat = j.toNat then v else getR r j := by
  unfold getR
  rw [List.getElem?_set]
  by_cases h : i.toNat = j.toNat
  · rw [if_pos h, if_pos h, if_pos (by omega)]; rfl
  · rw [if_neg h, if_neg h]
def agree (w : List Bool) (r s : List UInt64) : Prop := ∀ j : Int, 0 ≤ j → getB w j = true → getR r j = getR s j
theorem mem_reads {x : OpD} {j : Int} : j ∈ readsL x ↔ (aOf x.kind = true ∧ j = x.a) ∨ (aOf x.kind = true ∧ bOf x.kind = true ∧ j = x.b) := by
  unfold readsL
  by_cases h1 : aOf x.kind = true
  · by_cases h2 : bOf x.kind = true
    · simp [h1, h2]
    · simp [h1, h2]
  · simp [h1]
theorem b_a {k : Int} (h : bOf k = true) : aOf k = true := by
  unfold bOf at h
  unfold aOf
  simp only [Bool.and_eq_true, Bool.or_eq_true, decide_eq_true_eq] at h ⊢
  omega
theorem getB_want {x : OpD} {regs : Int} {w : List Bool} (hx : InR regs x) (hw : (w.length : Int) = regs) {j : Int} (hj : 0 ≤ j) :
    getB (wantS x w) j = if getB w x.d = true then ((!decide (j = x.d) && getB w j) || decide (j ∈ readsL x)) else getB w j := by
  obtain ⟨⟨d1, d2⟩, ⟨a1, a2⟩, ⟨b1, b2⟩⟩ := hx
  unfold wantS
  by_cases h : getB w x.d = true
  · rw [if_pos h, if_pos h, getB_mark _ _ _ ?_ hj, getB_set _ _ _ _ (by omega)]
    · by_cases hd : j = x.d
      · subst hd; simp
      · rw [if_neg (by omega)]; simp [hd]
    · intro i hi
      rw [List.length_set]
      rcases mem_reads.1 hi with ⟨_, rfl⟩ | ⟨_, _, rfl⟩ <;> omega
  · rw [if_neg h, if_neg h]
theorem agree_step {x : OpD} {regs : Int} {w : List Bool} {r s : List UInt64} (hx : InR regs x) (hw : (w.length : Int) = regs) (hr : (r.length : Int) = regs) (hs : (s.length : Int) = regs) (h : agree (wantS x w) r s) : agree w (stepR r x) (stepR s x) := by
  intro j hj hwj
  have hx' := hx
  obtain ⟨⟨d1, d2⟩, ⟨a1, a2⟩, ⟨b1, b2⟩⟩ := hx'
  unfold stepR
  rw [getR_set' _ _ _ _ (by omega), getR_set' _ _ _ _ (by omega)]
  by_cases hd : x.d = j
  · subst hd
    rw [if_pos rfl, if_pos rfl]
    refine applyU_reads x _ _ _ _ (fun ha => ?_) (fun hb => ?_)
    · exact h x.a a1 (by rw [getB_want hx hw a1, if_pos hwj]; simp [mem_reads, ha])
    · exact h x.b b1 (by rw [getB_want hx hw b1, if_pos hwj]; simp [mem_reads, hb, b_a hb])
  · rw [if_neg (by omega), if_neg (by omega)]
    refine h j hj ?_
    rw [getB_want hx hw hj]
    split
    · simp [hwj, Ne.symm hd]
    · exact hwj
/-- a write that nobody wants -/
theorem agree_skip {x : OpD} {regs : Int} {w : List Bool} {r s : List UInt64} (hx : InR regs x) (hr : (r.length : Int) = regs) (hd : getB w x.d ≠ true) (h : agree w r s) : agree w (stepR r x) s := by
  intro j hj hwj
  obtain ⟨⟨d1, d2⟩, _⟩ := hx
  unfold stepR
  rw [getR_set' _ _ _ _ (by omega), if_neg (fun e => hd (by rw [show x.d = j by omega]; exact hwj))]
  exact h j hj hwj
theorem want_length (l : List OpD) (w : List Bool) : (l.foldr wantS w).length = w.length := by
  induction l with
  | nil => rfl
  | cons x l ih => show (wantS x _).length = _; rw [wantS_length, ih]
theorem agree_run (l : List OpD) {regs : Int} (hl : ∀ x ∈ l, InR regs x) {w : List Bool} (hw : (w.length : Int) = regs) : ∀ (r s : List UInt64), (r.length : Int) = regs → (s.length : Int) = regs → agree (l.foldr wantS w) r s → agree w (runR l r) (runR l s) := by
  induction l with
  | nil => intro r s _ _ h; exact h
  | cons x l ih =>
    intro r s hr hs h
    exact ih (fun y hy => hl y (by simp [hy])) _ _ (by rw [stepR_length]; exact hr) (by rw [stepR_length]; exact hs) (agree_step (hl x (by simp)) (by rw [want_length]; exact hw) hr hs h)

/-! ### More wanted, more needed -/
def subB (a b : List Bool) : Prop := ∀ j : Int, 0 ≤ j → getB a j = true → getB b j = true
theorem sub_want {x : OpD} {regs : Int} {v w : List Bool} (hx : InR regs x) (hv : (v.length : Int) = regs) (hw : (w.length : Int) = regs) (h : subB v w) : subB (wantS x v) (wantS x w) := by
  intro j hj
  have hd := h x.d hx.1.1
  have hjj := h j hj
  rw [getB_want hx hv hj, getB_want hx hw hj]
  by_cases h1 : getB v x.d = true
  · rw [if_pos h1, if_pos (hd h1)]
    simp only [Bool.or_eq_true, Bool.and_eq_true, decide_eq_true_eq]
    rintro (⟨a, b⟩ | a)
    · exact .inl ⟨a, hjj b⟩
    · exact .inr a
  · rw [if_neg h1]
    intro a
    by_cases h2 : getB w x.d = true
    · rw [if_pos h2]
      have : j ≠ x.d := fun e => h1 (by rw [← e]; exact a)
      simp [this, hjj a]
    · rw [if_neg h2]; exact hjj a
theorem sub_run (Z : List (Nat × OpD)) {regs : Int} (hZ : ∀ p ∈ Z, InR regs p.2) {s t : Lv} (hs : (s.want.length : Int) = regs) (ht : (t.want.length : Int) = regs) (ho : s.ops.length = t.ops.length) (h : subB s.want t.want) (h2 : subB s.ops t.ops) :
    subB (lvRun Z s).want (lvRun Z t).want ∧ subB (lvRun Z s).ops (lvRun Z t).ops := by
  induction Z with
  | nil => exact ⟨h, h2⟩
  | cons p Z ih =>
    obtain ⟨i1, i2⟩ := ih (fun q hq => hZ q (by simp [hq]))
    have hp := hZ p (by simp)
    obtain ⟨l1, l2, _⟩ := lvRun_lengths Z s
    obtain ⟨m1, m2, _⟩ := lvRun_lengths Z t
    refine ⟨?_, ?_⟩
    · rw [lvRun_cons, lvRun_cons, lvStep_want, lvStep_want]
      exact sub_want hp (by omega) (by omega) i1
    · rw [lvRun_cons, lvRun_cons]
      unfold lvStep
      by_cases h1 : getB (lvRun Z s).want p.2.d = true
      · rw [if_pos h1, if_pos (i1 _ hp.1.1 h1)]
        intro j hj hjj
        by_cases hb : p.1 < (lvRun Z s).ops.length
        · have e1 := getB_set (lvRun Z s).ops (p.1 : Int) j true (by simpa using hb)
          have e2 := getB_set (lvRun Z t).ops (p.1 : Int) j true (by simp <;> omega)
          simp only [Int.toNat_natCast] at e1 e2
          rw [e2]
          rw [e1] at hjj
          split at hjj
          · rename_i e; rw [if_pos e]
          · rename_i e; rw [if_neg e]; exact i2 j hj hjj
        · rw [List.set_eq_of_length_le (by omega)] at hjj
          rw [List.set_eq_of_length_le (by omega)]
          exact i2 j hj hjj
      · rw [if_neg h1]
        by_cases h3 : getB (lvRun Z t).want p.2.d = true
        · rw [if_pos h3]
          intro j hj hjj
          have := i2 j hj hjj
          by_cases hb : p.1 < (lvRun Z t).ops.length
          · have e2 := getB_set (lvRun Z t).ops (p.1 : Int) j true (by simpa using hb)
            simp only [Int.toNat_natCast] at e2
            simp only
            rw [e2]
            split
            · rfl
            · exact this
          · simp only
            rw [List.set_eq_of_length_le (by omega)]
            exact this
        · rw [if_neg h3]; exact i2
end Go.Proofs.Ythncfoompoheoaa
