/- Plain facts: the writes within a block's round stand together, those ahead of it are those that come before. No program is named here. -/
import Derived.Test.YthncfoompoheoaaSg2
namespace Go.Proofs.Ythncfoompoheoaa
set_option linter.unusedVariables false
set_option linter.unusedSimpArgs false
namespace Fo
/-- is place `j` a block's begin? -/
def isB : Fo → Nat → Prop
  | .nil, _ => False
  | .leaf _ r, j => if j = 0 then False else isB r (j - 1)
  | .rep _ b _ r, j => if j = 0 then True else if j ≤ b.size + 1 then isB b (j - 1) else isB r (j - b.size - 2)
/-- the end of the block that begins at `i` -/
def fe : Fo → Nat → Nat
  | .nil, _ => 0
  | .leaf _ r, i => if i = 0 then 0 else 1 + fe r (i - 1)
  | .rep _ b _ r, i => if i = 0 then b.size + 1 else if i ≤ b.size + 1 then 1 + fe b (i - 1) else b.size + 2 + fe r (i - b.size - 2)
/-- the writes of one round of the block at `i` -/
def rd : Fo → Nat → Nat
  | .nil, _ => 0
  | .leaf _ r, i => if i = 0 then 0 else rd r (i - 1)
  | .rep _ b _ r, i => if i = 0 then b.wr else if i ≤ b.size + 1 then rd b (i - 1) else rd r (i - b.size - 2)
end Fo
/-- does a mark come ahead of a block's round? -/
def bef : List Int → Int → List Int → List Int → List Int → Bool
  | _, _, [], _, _ => false
  | [], x, p :: _, _, _ => decide (x < p)
  | q :: own, x, p :: P, r, rs => if q ≠ p then decide (q < p) else if r.headD 0 ≠ rs.headD 0 then decide (r.headD 0 < rs.headD 0) else bef own x P r.tail rs.tail
theorem Fo.isW_lt (f : Fo) : ∀ j, f.isW j → j < f.size := by
  induction f with
  | nil => intro j h; exact h.elim
  | leaf op r ih =>
    intro j h
    rw [Fo.size_leaf]
    rw [Fo.isW] at h
    by_cases h0 : j = 0
    · omega
    · rw [if_neg h0] at h; have := ih _ h; omega
  | rep op b fin r ihb ihr =>
    intro j h
    rw [Fo.size_rep]
    rw [Fo.isW] at h
    by_cases h0 : j = 0
    · omega
    · rw [if_neg h0] at h
      by_cases h1 : j ≤ b.size + 1
      · omega
      · rw [if_neg h1] at h; have := ihr _ h; omega
theorem Fo.isB_lt (f : Fo) : ∀ j, f.isB j → j < f.size := by
  induction f with
  | nil => intro j h; exact h.elim
  | leaf op r ih =>
    intro j h
    rw [Fo.size_leaf]
    rw [Fo.isB] at h
    by_cases h0 : j = 0
    · omega
    · rw [if_neg h0] at h; have := ih _ h; omega
  | rep op b fin r ihb ihr =>
    intro j h
    rw [Fo.size_rep]
    rw [Fo.isB] at h
    by_cases h0 : j = 0
    · omega
    · rw [if_neg h0] at h
      by_cases h1 : j ≤ b.size + 1
      · omega
      · rw [if_neg h1] at h; have := ihr _ h; omega
theorem Fo.pth_ge (f : Fo) : ∀ (o j : Nat), ∀ p ∈ pth o f j, (o : Int) ≤ p := by
  induction f with
  | nil => intro o j p h; simp [Fo.pth] at h
  | leaf op r ih =>
    intro o j p h
    rw [Fo.pth] at h
    by_cases h0 : j = 0
    · rw [if_pos h0] at h; simp at h
    · rw [if_neg h0] at h; have := ih _ _ p h; omega
  | rep op b fin r ihb ihr =>
    intro o j p h
    rw [Fo.pth] at h
    by_cases h0 : j = 0
    · rw [if_pos h0] at h; simp at h
    · rw [if_neg h0] at h
      by_cases h1 : j ≤ b.size + 1
      · rw [if_pos h1] at h
        rcases List.mem_cons.1 h with rfl | h
        · omega
        · have := ihb _ _ p h; omega
      · rw [if_neg h1] at h; have := ihr _ _ p h; omega
theorem Fo.pth_isB (f : Fo) : ∀ (o i : Nat), f.isB i → pth o f (i + 1) ≠ [] := by
  induction f with
  | nil => intro o i h; exact h.elim
  | leaf op r ih =>
    intro o i h
    rw [Fo.isB] at h
    by_cases h0 : i = 0
    · rw [if_pos h0] at h; exact h.elim
    · rw [if_neg h0] at h
      rw [Fo.pth, if_neg (by omega), show i + 1 - 1 = i - 1 + 1 by omega]
      exact ih _ _ h
  | rep op b fin r ihb ihr =>
    intro o i h
    rw [Fo.isB] at h
    rw [Fo.pth, if_neg (by omega)]
    by_cases h1 : i + 1 ≤ b.size + 1
    · rw [if_pos h1]; simp
    · rw [if_neg h1, show i + 1 - b.size - 2 = i - b.size - 2 + 1 by
        by_cases h2 : i ≤ b.size + 1
        · rw [if_neg (by omega), if_pos h2] at h
          have := b.isB_lt _ h; omega
        · omega]
      by_cases h2 : i ≤ b.size + 1
      · rw [if_neg (by omega), if_pos h2] at h
        have := b.isB_lt _ h; omega
      · rw [if_neg (by omega), if_neg h2] at h
        exact ihr _ _ h
theorem bef_lt {own P r rs : List Int} {x : Int} (hP : P ≠ []) (h : ∀ p ∈ P, (x < p) ∧ ∀ q, own.head? = some q → q < p) : bef own x P r rs = true := by
  cases P with
  | nil => exact (hP rfl).elim
  | cons p P =>
    obtain ⟨h1, h2⟩ := h p (by simp)
    cases own with
    | nil => simp [bef, h1]
    | cons q own =>
      have h3 := h2 q rfl
      rw [bef, if_pos (by omega)]
      exact decide_eq_true h3
theorem bef_gt {own P r rs : List Int} {x p : Int} (h1 : p < x) (h2 : ∀ q, own.head? = some q → p < q) : bef own x (p :: P) r rs = false := by
  cases own with
  | nil => rw [bef]; exact decide_eq_false (by omega)
  | cons q own =>
    have h3 := h2 q rfl
    rw [bef, if_pos (by omega)]
    exact decide_eq_false (by omega)
theorem mul_step {k s : Int} {w : Nat} (h : k < s) : k * (w : Int) + w ≤ s * (w : Int) := by
  have := Int.mul_le_mul_of_nonneg_right (show k + 1 ≤ s by omega) (show (0 : Int) ≤ (w : Int) by omega)
  rw [Int.add_mul, Int.one_mul] at this
  exact this
theorem head_ge {o : Nat} {f : Fo} {j : Nat} {q : Int} (h : (Fo.pth o f j).head? = some q) : (o : Int) ≤ q := by
  cases hp : Fo.pth o f j with
  | nil => rw [hp] at h; simp at h
  | cons p P =>
    rw [hp] at h
    have := f.pth_ge o j p (by rw [hp]; simp)
    simp at h
    omega
theorem Fo.isB_rep {op fin : OpD} {b r : Fo} {i : Nat} (h : (Fo.rep op b fin r).isB i) : i = 0 ∨ (∃ k, i = k + 1 ∧ k < b.size ∧ b.isB k) ∨ (∃ k, i = b.size + 2 + k ∧ r.isB k) := by
  rw [Fo.isB] at h
  by_cases h0 : i = 0
  · exact .inl h0
  · rw [if_neg h0] at h
    by_cases h1 : i ≤ b.size + 1
    · rw [if_pos h1] at h
      exact .inr (.inl ⟨i - 1, by omega, b.isB_lt _ h, h⟩)
    · rw [if_neg h1] at h
      exact .inr (.inr ⟨i - b.size - 2, by omega, h⟩)
theorem Fo.isW_rep {op fin : OpD} {b r : Fo} {i : Nat} (h : (Fo.rep op b fin r).isW i) : (∃ k, i = k + 1 ∧ k < b.size ∧ b.isW k) ∨ (∃ k, i = b.size + 2 + k ∧ r.isW k) := by
  rw [Fo.isW] at h
  by_cases h0 : i = 0
  · rw [if_pos h0] at h; exact h.elim
  · rw [if_neg h0] at h
    by_cases h1 : i ≤ b.size + 1
    · rw [if_pos h1] at h
      exact .inl ⟨i - 1, by omega, b.isW_lt _ h, h⟩
    · rw [if_neg h1] at h
      exact .inr ⟨i - b.size - 2, by omega, h⟩
theorem Fo.plc_in {op fin : OpD} {b r : Fo} {k : Nat} (h : k ≤ b.size) (rs : List Int) : (Fo.rep op b fin r).plc (k + 1) rs = rs.headD 0 * (b.wr : Int) + b.plc k rs.tail := by
  rw [Fo.plc, if_neg (by omega), if_pos (by omega)]; rfl
theorem Fo.plc_out {op fin : OpD} {b r : Fo} (k : Nat) (rs : List Int) : (Fo.rep op b fin r).plc (b.size + 2 + k) rs = (op.v.toNat : Int) * (b.wr : Int) + r.plc k rs := by
  rw [Fo.plc, if_neg (by omega), if_neg (by omega), show b.size + 2 + k - b.size - 2 = k by omega, Int.natCast_mul, Int.mul_comm]
theorem Fo.rok_in {op fin : OpD} {b r : Fo} {k : Nat} (h : k ≤ b.size) {rs : List Int} (g : (Fo.rep op b fin r).rok (k + 1) rs) : ∃ s t, rs = s :: t ∧ 0 ≤ s ∧ s < (op.v.toNat : Int) ∧ b.rok k t := by
  rw [Fo.rok, if_neg (by omega), if_pos (by omega)] at g; exact g
theorem Fo.rok_out {op fin : OpD} {b r : Fo} {k : Nat} {rs : List Int} (g : (Fo.rep op b fin r).rok (b.size + 2 + k) rs) : r.rok k rs := by
  rw [Fo.rok, if_neg (by omega), if_neg (by omega), show b.size + 2 + k - b.size - 2 = k by omega] at g; exact g
theorem Fo.pth_in {op fin : OpD} {b r : Fo} {k : Nat} (h : k ≤ b.size) (o : Nat) : Fo.pth o (Fo.rep op b fin r) (k + 1) = (o : Int) :: Fo.pth (o + 1) b k := by
  rw [Fo.pth, if_neg (by omega), if_pos (by omega)]; rfl
theorem Fo.pth_out {op fin : OpD} {b r : Fo} (k o : Nat) : Fo.pth o (Fo.rep op b fin r) (b.size + 2 + k) = Fo.pth (o + b.size + 2) r k := by
  rw [Fo.pth, if_neg (by omega), if_neg (by omega), show b.size + 2 + k - b.size - 2 = k by omega]
theorem Fo.wr_rep' (op fin : OpD) (b r : Fo) : ((Fo.rep op b fin r).wr : Int) = (op.v.toNat : Int) * (b.wr : Int) + (r.wr : Int) := by
  rw [Fo.wr, Int.natCast_add, Int.natCast_mul, Int.mul_comm]
theorem Fo.rok0 {f : Fo} {rs : List Int} (h : f.rok 0 rs) : rs = [] := (Fo.rok_zero f rs).1 h
theorem mul_nn {k : Int} {w : Nat} (h : 0 ≤ k) : 0 ≤ k * (w : Int) := Int.mul_nonneg h (by omega)
/-- a block's round lies within all writes -/
theorem Fo.seg_bd (f : Fo) : ∀ (i : Nat) (rs : List Int), f.isB i → f.rok (i + 1) rs → 0 ≤ f.plc (i + 1) rs ∧ f.plc (i + 1) rs + (f.rd i : Int) ≤ (f.wr : Int) := by
  induction f with
  | nil => intro i rs h; exact h.elim
  | leaf op r ih =>
    intro i rs h hr
    rw [Fo.isB] at h
    by_cases h0 : i = 0
    · rw [if_pos h0] at h; exact h.elim
    · rw [if_neg h0] at h
      rw [Fo.rok, if_neg (by omega), show i + 1 - 1 = i - 1 + 1 by omega] at hr
      have := ih _ rs h hr
      rw [Fo.plc, if_neg (by omega), Fo.rd, if_neg h0, show i + 1 - 1 = i - 1 + 1 by omega, Fo.wr]
      omega
  | rep op b fin r ihb ihr =>
    intro i rs h hr
    rw [Fo.wr_rep']
    rcases Fo.isB_rep h with rfl | ⟨k, rfl, hk, hb⟩ | ⟨k, rfl, hb⟩
    · obtain ⟨s, t, rfl, s0, s1, s2⟩ := Fo.rok_in (k := 0) (by omega) hr
      rw [Fo.plc_in (by omega), Fo.rd, if_pos rfl, Fo.plc_zero]
      have := mul_step (w := b.wr) s1
      have := mul_nn (w := b.wr) s0
      simp only [List.headD_cons]
      omega
    · obtain ⟨s, t, rfl, s0, s1, s2⟩ := Fo.rok_in (k := k + 1) (by omega) hr
      have h1 := ihb k t hb s2
      rw [Fo.plc_in (by omega), Fo.rd, if_neg (by omega), if_pos (by omega), show k + 1 - 1 = k by omega]
      have := mul_step (w := b.wr) s1
      have := mul_nn (w := b.wr) s0
      simp only [List.headD_cons, List.tail_cons]
      omega
    · have h1 := ihr k rs hb (Fo.rok_out (k := k + 1) hr)
      have e := Fo.plc_out (op := op) (fin := fin) (b := b) (r := r) (k + 1) rs
      have : b.size + 2 + k + 1 = b.size + 2 + (k + 1) := rfl
      rw [this, e, Fo.rd, if_neg (by omega), if_neg (by omega), show b.size + 2 + k - b.size - 2 = k by omega]
      have := mul_nn (k := (op.v.toNat : Int)) (w := b.wr) (by omega)
      omega
theorem Fo.fe_lt (f : Fo) : ∀ i, f.isB i → f.fe i < f.size := by
  induction f with
  | nil => intro i h; exact h.elim
  | leaf op r ih =>
    intro i h
    rw [Fo.isB] at h
    rw [Fo.size_leaf]
    by_cases h0 : i = 0
    · rw [if_pos h0] at h; exact h.elim
    · rw [if_neg h0] at h
      rw [Fo.fe, if_neg h0]
      have := ih _ h; omega
  | rep op b fin r ihb ihr =>
    intro i h
    rw [Fo.size_rep]
    rcases Fo.isB_rep h with rfl | ⟨k, rfl, hk, hb⟩ | ⟨k, rfl, hb⟩
    · rw [Fo.fe, if_pos rfl]; omega
    · rw [Fo.fe, if_neg (by omega), if_pos (by omega), show k + 1 - 1 = k by omega]
      have := ihb _ hb; omega
    · rw [Fo.fe, if_neg (by omega), if_neg (by omega), show b.size + 2 + k - b.size - 2 = k by omega]
      have := ihr _ hb; omega
/-- a write stands ahead of a block's round, within it, or behind it -/
theorem Fo.order (f : Fo) : ∀ (o i j : Nat) (rs r : List Int), f.isB i → f.rok (i + 1) rs → f.isW j → f.rok j r →
    ((i < j ∧ j < f.fe i ∧ r.take rs.length = rs ∧ f.plc (i + 1) rs ≤ f.plc j r ∧ f.plc j r < f.plc (i + 1) rs + (f.rd i : Int)) ∨
      (¬ (i < j ∧ j < f.fe i ∧ r.take rs.length = rs) ∧ ((bef (pth o f j) ((o + j : Nat) : Int) (pth o f (i + 1)) r rs = true ∧ f.plc j r < f.plc (i + 1) rs) ∨ (bef (pth o f j) ((o + j : Nat) : Int) (pth o f (i + 1)) r rs = false ∧ f.plc (i + 1) rs + (f.rd i : Int) ≤ f.plc j r)))) := by
  induction f with
  | nil => intro o i j rs r h; exact h.elim
  | leaf op g ih =>
    intro o i j rs r h hrs hw hr
    have hbd := Fo.seg_bd _ i rs h hrs
    rw [Fo.isB] at h
    by_cases h0 : i = 0
    · rw [if_pos h0] at h; exact h.elim
    obtain ⟨i, rfl⟩ : ∃ k, i = k + 1 := ⟨i - 1, by omega⟩
    rw [if_neg h0] at h
    simp only [Nat.add_sub_cancel] at h
    have hrs' : g.rok (i + 1) rs := by rw [Fo.rok, if_neg (by omega)] at hrs; exact hrs
    have e1 : (Fo.leaf op g).plc (i + 1 + 1) rs = 1 + g.plc (i + 1) rs := by rw [Fo.plc, if_neg (by omega)]; rfl
    have e2 : (Fo.leaf op g).rd (i + 1) = g.rd i := by rw [Fo.rd, if_neg (by omega)]; rfl
    have e3 : (Fo.leaf op g).fe (i + 1) = 1 + g.fe i := by rw [Fo.fe, if_neg (by omega)]; rfl
    have e4 : Fo.pth o (Fo.leaf op g) (i + 1 + 1) = Fo.pth (o + 1) g (i + 1) := by rw [Fo.pth, if_neg (by omega)]; rfl
    have hbd' := Fo.seg_bd g i rs h hrs'
    rw [e1, e2, e3, e4]
    cases j with
    | zero =>
      have e5 : (Fo.leaf op g).plc 0 r = 0 := by rw [Fo.plc, if_pos rfl]
      have e6 : Fo.pth o (Fo.leaf op g) 0 = [] := by rw [Fo.pth, if_pos rfl]
      rw [e5, e6]
      refine .inr ⟨by omega, .inl ⟨bef_lt (Fo.pth_isB g _ _ h) (fun p hp => ⟨by have := Fo.pth_ge g _ _ p hp; omega, fun q hq => by simp at hq⟩), by omega⟩⟩
    | succ j =>
      rw [Fo.isW, if_neg (by omega)] at hw
      simp only [Nat.add_sub_cancel] at hw
      have hr' : g.rok j r := by rw [Fo.rok, if_neg (by omega)] at hr; exact hr
      have e5 : (Fo.leaf op g).plc (j + 1) r = 1 + g.plc j r := by rw [Fo.plc, if_neg (by omega)]; rfl
      have e6 : Fo.pth o (Fo.leaf op g) (j + 1) = Fo.pth (o + 1) g j := by rw [Fo.pth, if_neg (by omega)]; rfl
      rw [e5, e6, show o + (j + 1) = o + 1 + j by omega]
      rcases ih (o + 1) i j rs r h hrs' hw hr' with ⟨a1, a2, a3, a4, a5⟩ | ⟨a1, a2⟩
      · exact .inl ⟨by omega, by omega, a3, by omega, by omega⟩
      · refine .inr ⟨fun hh => a1 ⟨by omega, by omega, hh.2.2⟩, ?_⟩
        rcases a2 with ⟨a2, a3⟩ | ⟨a2, a3⟩
        · exact .inl ⟨a2, by omega⟩
        · exact .inr ⟨a2, by omega⟩
  | rep op b fin g ihb ihr =>
    intro o i j rs r h hrs hw hr
    rcases Fo.isB_rep h with rfl | ⟨k, rfl, hk, hb⟩ | ⟨k, rfl, hb⟩
    · -- the block itself
      obtain ⟨s, t, rfl, s0, s1, s2⟩ := Fo.rok_in (k := 0) (by omega) hrs
      obtain rfl := Fo.rok0 s2
      have e1 := Fo.plc_in (op := op) (fin := fin) (b := b) (r := g) (k := 0) (by omega) [s]
      have e2 : (Fo.rep op b fin g).rd 0 = b.wr := by rw [Fo.rd, if_pos rfl]
      have e3 : (Fo.rep op b fin g).fe 0 = b.size + 1 := by rw [Fo.fe, if_pos rfl]
      have e4 := Fo.pth_in (op := op) (fin := fin) (b := b) (r := g) (k := 0) (by omega) o
      rw [Fo.pth_zero] at e4
      rw [Fo.plc_zero] at e1
      simp only [List.headD_cons] at e1
      rw [e1, e2, e3, e4]
      rcases Fo.isW_rep hw with ⟨m, rfl, hm, hv⟩ | ⟨m, rfl, hv⟩
      · obtain ⟨q, u, rfl, q0, q1, q2⟩ := Fo.rok_in (k := m) (by omega) hr
        have hpb := b.plc_bd m u q2
        have hpw := hpb.2.2 hv
        rw [Fo.plc_in (by omega), Fo.pth_in (by omega)]
        simp only [List.headD_cons, List.tail_cons, List.length_singleton, List.take_succ_cons, List.take_zero]
        rcases Int.lt_trichotomy q s with hq | rfl | hq
        · have := mul_step (w := b.wr) hq
          refine .inr ⟨fun hh => by have := hh.2.2; simp at this; omega, .inl ⟨?_, by omega⟩⟩
          rw [bef, if_neg (by simp), if_pos (by simp; omega)]
          exact decide_eq_true (by simpa using hq)
        · exact .inl ⟨by omega, by omega, rfl, by omega, by omega⟩
        · have := mul_step (w := b.wr) hq
          refine .inr ⟨fun hh => by have := hh.2.2; simp at this; omega, .inr ⟨?_, by omega⟩⟩
          rw [bef, if_neg (by simp), if_pos (by simp; omega)]
          exact decide_eq_false (by simp; omega)
      · have hpb := g.plc_bd m r (Fo.rok_out hr)
        have := mul_step (w := b.wr) s1
        rw [Fo.plc_out, Fo.pth_out]
        refine .inr ⟨by omega, .inr ⟨bef_gt (by omega) (fun q hq => by have := head_ge hq; omega), by omega⟩⟩
    · -- a block within
      obtain ⟨s, t, rfl, s0, s1, s2⟩ := Fo.rok_in (k := k + 1) (by omega) hrs
      have hbd := Fo.seg_bd b k t hb s2
      have e1 := Fo.plc_in (op := op) (fin := fin) (b := b) (r := g) (k := k + 1) (by omega) (s :: t)
      have e2 : (Fo.rep op b fin g).rd (k + 1) = b.rd k := by rw [Fo.rd, if_neg (by omega), if_pos (by omega)]; rfl
      have e3 : (Fo.rep op b fin g).fe (k + 1) = 1 + b.fe k := by rw [Fo.fe, if_neg (by omega), if_pos (by omega)]; rfl
      have e4 := Fo.pth_in (op := op) (fin := fin) (b := b) (r := g) (k := k + 1) (by omega) o
      simp only [List.headD_cons, List.tail_cons] at e1
      rw [e1, e2, e3, e4]
      rcases Fo.isW_rep hw with ⟨m, rfl, hm, hv⟩ | ⟨m, rfl, hv⟩
      · obtain ⟨q, u, rfl, q0, q1, q2⟩ := Fo.rok_in (k := m) (by omega) hr
        have hpb := b.plc_bd m u q2
        have hpw := hpb.2.2 hv
        rw [Fo.plc_in (by omega), Fo.pth_in (by omega)]
        simp only [List.headD_cons, List.tail_cons, List.length_cons, List.take_succ_cons]
        rcases Int.lt_trichotomy q s with hq | rfl | hq
        · have := mul_step (w := b.wr) hq
          refine .inr ⟨fun hh => by have := hh.2.2; simp at this; omega, .inl ⟨?_, by omega⟩⟩
          rw [bef, if_neg (by simp), if_pos (by simp; omega)]
          exact decide_eq_true (by simpa using hq)
        · have eb : bef ((o : Int) :: Fo.pth (o + 1) b m) ((o + (m + 1) : Nat) : Int) ((o : Int) :: Fo.pth (o + 1) b (k + 1)) (q :: u) (q :: t) = bef (Fo.pth (o + 1) b m) ((o + 1 + m : Nat) : Int) (Fo.pth (o + 1) b (k + 1)) u t := by
            rw [bef, if_neg (by simp), if_neg (by simp), show o + (m + 1) = o + 1 + m by omega]; rfl
          rw [eb]
          rcases ihb (o + 1) k m t u hb s2 hv q2 with ⟨a1, a2, a3, a4, a5⟩ | ⟨a1, a2⟩
          · exact .inl ⟨by omega, by omega, by rw [a3], by omega, by omega⟩
          · refine .inr ⟨fun hh => a1 ⟨by omega, by omega, by have := hh.2.2; simpa using this⟩, ?_⟩
            rcases a2 with ⟨a2, a3⟩ | ⟨a2, a3⟩
            · exact .inl ⟨a2, by omega⟩
            · exact .inr ⟨a2, by omega⟩
        · have := mul_step (w := b.wr) hq
          refine .inr ⟨fun hh => by have := hh.2.2; simp at this; omega, .inr ⟨?_, by omega⟩⟩
          rw [bef, if_neg (by simp), if_pos (by simp; omega)]
          exact decide_eq_false (by simp; omega)
      · have hpb := g.plc_bd m r (Fo.rok_out hr)
        have := mul_step (w := b.wr) s1
        have hfe := b.fe_lt k hb
        rw [Fo.plc_out, Fo.pth_out]
        refine .inr ⟨by omega, .inr ⟨bef_gt (by omega) (fun q hq => by have := head_ge hq; omega), by omega⟩⟩
    · -- a block behind
      have hrs' : g.rok (k + 1) rs := Fo.rok_out (k := k + 1) hrs
      have hbd := Fo.seg_bd g k rs hb hrs'
      have e1 : (Fo.rep op b fin g).plc (b.size + 2 + k + 1) rs = (op.v.toNat : Int) * (b.wr : Int) + g.plc (k + 1) rs := Fo.plc_out (k + 1) rs
      have e2 : (Fo.rep op b fin g).rd (b.size + 2 + k) = g.rd k := by rw [Fo.rd, if_neg (by omega), if_neg (by omega), show b.size + 2 + k - b.size - 2 = k by omega]
      have e3 : (Fo.rep op b fin g).fe (b.size + 2 + k) = b.size + 2 + g.fe k := by rw [Fo.fe, if_neg (by omega), if_neg (by omega), show b.size + 2 + k - b.size - 2 = k by omega]
      have e4 : Fo.pth o (Fo.rep op b fin g) (b.size + 2 + k + 1) = Fo.pth (o + b.size + 2) g (k + 1) := Fo.pth_out (k + 1) o
      rw [e1, e2, e3, e4]
      rcases Fo.isW_rep hw with ⟨m, rfl, hm, hv⟩ | ⟨m, rfl, hv⟩
      · obtain ⟨q, u, rfl, q0, q1, q2⟩ := Fo.rok_in (k := m) (by omega) hr
        have hpb := b.plc_bd m u q2
        have hpw := hpb.2.2 hv
        have := mul_step (w := b.wr) q1
        rw [Fo.plc_in (by omega), Fo.pth_in (by omega)]
        simp only [List.headD_cons, List.tail_cons]
        refine .inr ⟨by omega, .inl ⟨bef_lt (Fo.pth_isB g _ _ hb) (fun p hp => ?_), by omega⟩⟩
        have := Fo.pth_ge g _ _ p hp
        refine ⟨by omega, fun q' hq' => ?_⟩
        simp at hq'
        omega
      · rw [Fo.plc_out, Fo.pth_out, show o + (b.size + 2 + m) = o + b.size + 2 + m by omega]
        rcases ihr (o + b.size + 2) k m rs r hb hrs' hv (Fo.rok_out hr) with ⟨a1, a2, a3, a4, a5⟩ | ⟨a1, a2⟩
        · exact .inl ⟨by omega, by omega, a3, by omega, by omega⟩
        · refine .inr ⟨fun hh => a1 ⟨by omega, by omega, hh.2.2⟩, ?_⟩
          rcases a2 with ⟨a2, a3⟩ | ⟨a2, a3⟩
          · exact .inl ⟨a2, by omega⟩
          · exact .inr ⟨a2, by omega⟩
/-- a block by the operations, its end by the match table, its round's writes by the list of them -/
theorem isB_match {l : List OpD} {m : List Int} (f : Fo) : ∀ (o i : Nat), Stands l m o f → i < f.size → ∀ x, l[o + i]? = some x → x.kind = 7 → f.isB i ∧ m[o + i]? = some ((o + f.fe i : Nat) : Int) ∧ f.rounds[i]? = some (f.rd i : Int) := by
  induction f with
  | nil => intro o i h hi; simp [Fo.size, Fo.flat] at hi
  | leaf op r ih =>
    intro o i h hi x hx h7
    obtain ⟨e1, k1, k2, e2, hr⟩ := h.leaf
    rw [Fo.size_leaf] at hi
    cases i with
    | zero =>
      rw [Nat.add_zero, e1] at hx
      injection hx with hx
      subst hx
      omega
    | succ i =>
      obtain ⟨b1, b2, b3⟩ := ih (o + 1) i hr (by omega) x (by rw [← hx]; congr 1; omega) h7
      refine ⟨?_, ?_, ?_⟩
      · rw [Fo.isB, if_neg (by omega)]; exact b1
      · rw [Fo.fe, if_neg (by omega), show o + (i + 1) = o + 1 + i by omega, b2, show i + 1 - 1 = i by omega, show o + 1 + r.fe i = o + (1 + r.fe i) by omega]
      · rw [Fo.rd, if_neg (by omega), Fo.rounds, List.getElem?_cons_succ]; exact b3
  | rep op b fin r ihb ihr =>
    intro o i h hi x hx h7
    obtain ⟨e1, k7, e3, e4, e5, e6, hb, hr⟩ := h.rep
    rw [Fo.size_rep] at hi
    have hlb := b.rounds_length
    cases i with
    | zero =>
      refine ⟨?_, ?_, ?_⟩
      · rw [Fo.isB, if_pos rfl]; trivial
      · rw [Fo.fe, if_pos rfl, Nat.add_zero, e3]; rfl
      · rw [Fo.rd, if_pos rfl, Fo.rounds]; rfl
    | succ i =>
      by_cases h1 : i < b.size
      · obtain ⟨b1, b2, b3⟩ := ihb (o + 1) i hb h1 x (by rw [← hx]; congr 1; omega) h7
        refine ⟨?_, ?_, ?_⟩
        · rw [Fo.isB, if_neg (by omega), if_pos (by omega)]; exact b1
        · rw [Fo.fe, if_neg (by omega), if_pos (by omega), show o + (i + 1) = o + 1 + i by omega, b2, show i + 1 - 1 = i by omega, show o + 1 + b.fe i = o + (1 + b.fe i) by omega]
        · rw [Fo.rd, if_neg (by omega), if_pos (by omega), Fo.rounds, List.getElem?_cons_succ, List.getElem?_append_left (by omega)]; exact b3
      · by_cases h2 : i = b.size
        · subst h2
          rw [show o + (b.size + 1) = o + b.size + 1 by omega, e4] at hx
          injection hx with hx
          subst hx
          omega
        · obtain ⟨k, rfl⟩ : ∃ k, i = b.size + 1 + k := ⟨i - b.size - 1, by omega⟩
          obtain ⟨b1, b2, b3⟩ := ihr (o + b.size + 2) k hr (by omega) x (by rw [← hx]; congr 1; omega) h7
          refine ⟨?_, ?_, ?_⟩
          · rw [Fo.isB, if_neg (by omega), if_neg (by omega), show b.size + 1 + k + 1 - b.size - 2 = k by omega]; exact b1
          · rw [Fo.fe, if_neg (by omega), if_neg (by omega), show o + (b.size + 1 + k + 1) = o + b.size + 2 + k by omega, b2, show b.size + 1 + k + 1 - b.size - 2 = k by omega, show o + b.size + 2 + r.fe k = o + (b.size + 2 + r.fe k) by omega]
          · rw [Fo.rd, if_neg (by omega), if_neg (by omega), show b.size + 1 + k + 1 - b.size - 2 = k by omega, Fo.rounds, List.getElem?_cons_succ, List.getElem?_append_right (by omega), show b.size + 1 + k - b.rounds.length = k + 1 by omega, List.getElem?_cons_succ]; exact b3
end Go.Proofs.Ythncfoompoheoaa
