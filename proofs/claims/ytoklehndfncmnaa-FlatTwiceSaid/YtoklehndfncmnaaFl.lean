/- Plain facts on flat code: what is left out of it, what it is unrolled, how a machine goes through it, from its first to its end. No program is named here. -/
import Derived.Test.YtoklehndfncmnaaSz
namespace Go.Proofs.Ytoklehndfncmnaa
set_option linter.unusedVariables false
set_option linter.unusedSimpArgs false
open Go.RowKit

namespace Fo
/-- without the blocks that have no writes -/
def bare : Fo → Fo
  | nil => nil
  | leaf op r => leaf op (bare r)
  | rep op b fin r => if wr b * op.v.toNat = 0 then bare r else rep op (bare b) fin (bare r)
def unroll : Fo → List OpD
  | nil => []
  | leaf op r => op :: unroll r
  | rep op b _ r => (List.replicate op.v.toNat (unroll b)).flatten ++ unroll r
/-- all operations that are gone by -/
def gone : Fo → List OpD
  | nil => []
  | leaf op r => op :: gone r
  | rep op b fin r => op :: ((List.replicate op.v.toNat (gone b ++ [fin])).flatten ++ gone r)
def code : Nat → Fo → List (OpD × Int)
  | _, nil => []
  | o, leaf op r => (op, 0) :: code (o + 1) r
  | o, rep op b fin r => (op, ((o + b.size + 2 : Nat) : Int)) :: (code (o + 1) b ++ (fin, ((o + 1 : Nat) : Int)) :: code (o + b.size + 2) r)
/-- every block has writes, and is taken -/
def full : Fo → Prop
  | nil => True
  | leaf _ r => full r
  | rep op b _ r => 1 ≤ op.v.toNat ∧ 1 ≤ wr b ∧ full b ∧ full r
/-- how deep blocks stand -/
def dp : Fo → Nat
  | nil => 0
  | leaf _ r => dp r
  | rep _ b _ r => max (dp b + 1) (dp r)

theorem code_length (f : Fo) (o : Nat) : (code o f).length = f.size := by
  induction f generalizing o with
  | nil => rfl
  | leaf op r ih => simp [code, ih, size_leaf]
  | rep op b fin r ihb ihr => simp [code, ihb, ihr, size_rep] <;> omega
theorem code_ops (f : Fo) (o : Nat) : (code o f).map (·.1) = f.flat := by
  induction f generalizing o with
  | nil => rfl
  | leaf op r ih => simp [code, flat, ih]
  | rep op b fin r ihb ihr => simp [code, flat, ihb, ihr]
theorem length_rep {α : Type} (n : Nat) (l : List α) : (List.replicate n l).flatten.length = l.length * n := by
  simp [Nat.mul_comm]
theorem unroll_length (f : Fo) : f.unroll.length = f.wr := by
  induction f with
  | nil => rfl
  | leaf op r ih => simp [unroll, wr, ih]
  | rep op b fin r ihb ihr => rw [unroll, List.length_append, length_rep, ihb, ihr]; rfl
theorem bare_wr (f : Fo) : f.bare.wr = f.wr := by
  induction f with
  | nil => rfl
  | leaf op r ih => simp [bare, wr, ih]
  | rep op b fin r ihb ihr =>
    unfold bare
    split
    · rename_i h; simp [wr, ihr, h]
    · simp [wr, ihb, ihr]
theorem bare_ok (f : Fo) (hf : f.ok) : f.bare.ok := by
  induction f with
  | nil => trivial
  | leaf op r ih => exact ⟨hf.1, hf.2.1, ih hf.2.2⟩
  | rep op b fin r ihb ihr =>
    unfold bare
    split
    · exact ihr hf.2.2.2
    · exact ⟨hf.1, ihb hf.2.1, hf.2.2.1, ihr hf.2.2.2⟩
theorem bare_full (f : Fo) : f.bare.full := by
  induction f with
  | nil => trivial
  | leaf op r ih => exact ih
  | rep op b fin r ihb ihr =>
    unfold bare
    split
    · exact ihr
    · rename_i h
      have h1 : wr b ≠ 0 := fun e => h (by rw [e]; simp)
      have h2 : op.v.toNat ≠ 0 := fun e => h (by rw [e]; simp)
      exact ⟨by omega, by rw [bare_wr]; omega, ihb, ihr⟩
theorem nil_of_wr (f : Fo) (h : f.wr = 0) : f.unroll = [] := List.eq_nil_of_length_eq_zero (by rw [unroll_length, h])
theorem bare_unroll (f : Fo) : f.bare.unroll = f.unroll := by
  induction f with
  | nil => rfl
  | leaf op r ih => simp [bare, unroll, ih]
  | rep op b fin r ihb ihr =>
    unfold bare
    split
    · rename_i h
      rw [unroll, ihr]
      rcases Nat.mul_eq_zero.1 h with h | h
      · rw [nil_of_wr b h]; simp
      · rw [h]; simp
    · simp [unroll, ihb, ihr]
theorem bare_size (f : Fo) : f.bare.size ≤ f.size := by
  induction f with
  | nil => exact Nat.le_refl _
  | leaf op r ih => simp only [bare, size_leaf]; omega
  | rep op b fin r ihb ihr =>
    unfold bare
    split
    · rw [size_rep]; omega
    · rw [size_rep, size_rep]; omega
theorem bare_mem (f : Fo) : ∀ x ∈ f.bare.flat, x ∈ f.flat := by
  induction f with
  | nil => exact fun x h => h
  | leaf op r ih =>
    intro x h
    simp only [bare, flat, List.mem_cons] at h ⊢
    exact h.imp id (ih x)
  | rep op b fin r ihb ihr =>
    intro x h
    unfold bare at h
    split at h
    · simp only [flat, List.mem_cons, List.mem_append]
      exact .inr (.inr (.inr (ihr x h)))
    · simp only [flat, List.mem_cons, List.mem_append] at h ⊢
      rcases h with h | h | h | h
      · exact .inl h
      · exact .inr (.inl (ihb x h))
      · exact .inr (.inr (.inl h))
      · exact .inr (.inr (.inr (ihr x h)))
theorem bare_dp (f : Fo) : f.bare.dp ≤ f.dp := by
  induction f with
  | nil => exact Nat.le_refl _
  | leaf op r ih => exact ih
  | rep op b fin r ihb ihr =>
    unfold bare
    split
    · simp only [dp]; omega
    · simp only [dp]; omega
theorem bare_idem (f : Fo) (hf : f.full) : f.bare = f := by
  induction f with
  | nil => rfl
  | leaf op r ih => simp only [bare, ih hf]
  | rep op b fin r ihb ihr =>
    obtain ⟨h1, h2, h3, h4⟩ := hf
    unfold bare
    rw [if_neg (fun e => by rcases Nat.mul_eq_zero.1 e with e | e <;> omega), ihb h3, ihr h4]
theorem unroll_app (f g : Fo) : (f.app g).unroll = f.unroll ++ g.unroll := by
  induction f with
  | nil => rfl
  | leaf op r ih => simp [app, unroll, ih]
  | rep op b fin r _ ih => simp [app, unroll, ih]
theorem dp_app (f g : Fo) : (f.app g).dp = max f.dp g.dp := by
  induction f with
  | nil => simp [app, dp]
  | leaf op r ih => simp [app, dp, ih]
  | rep op b fin r _ ih => simp [app, dp, ih] <;> omega
theorem unroll_mem (f : Fo) (hf : f.ok) : ∀ x ∈ f.unroll, x ∈ f.flat ∧ 1 ≤ x.kind ∧ x.kind ≤ 6 := by
  induction f with
  | nil => exact fun x h => by cases h
  | leaf op r ih =>
    intro x h
    simp only [unroll, flat, List.mem_cons] at h ⊢
    rcases h with rfl | h
    · exact ⟨.inl rfl, hf.1, hf.2.1⟩
    · exact ⟨.inr (ih hf.2.2 x h).1, (ih hf.2.2 x h).2⟩
  | rep op b fin r ihb ihr =>
    intro x h
    simp only [unroll, flat, List.mem_cons, List.mem_append] at h ⊢
    rcases h with h | h
    · obtain ⟨l, hl, hx⟩ := List.mem_flatten.1 h
      have := List.eq_of_mem_replicate hl
      subst this
      exact ⟨.inr (.inl (ihb hf.2.1 x hx).1), (ihb hf.2.1 x hx).2⟩
    · exact ⟨.inr (.inr (.inr (ihr hf.2.2.2 x h).1)), (ihr hf.2.2.2 x h).2⟩
theorem gone_ge (f : Fo) : f.wr ≤ f.gone.length := by
  induction f with
  | nil => exact Nat.le_refl _
  | leaf op r ih => simp only [wr, gone, List.length_cons]; omega
  | rep op b fin r ihb ihr =>
    simp only [wr, gone, List.length_cons, List.length_append]
    rw [length_rep, List.length_append]
    have : wr b * op.v.toNat ≤ (gone b).length * op.v.toNat := Nat.mul_le_mul_right _ ihb
    have h2 : (gone b).length * op.v.toNat ≤ ((gone b).length + [fin].length) * op.v.toNat := Nat.mul_le_mul_right _ (by simp)
    omega
theorem gone_le (f : Fo) (hf : f.full) : ∀ D : Nat, f.dp ≤ D → f.gone.length ≤ f.wr * (1 + 2 * D) := by
  induction f with
  | nil => intro D _; simp [gone]
  | leaf op r ih =>
    intro D h
    have := ih hf D h
    simp only [wr, gone, List.length_cons, Nat.add_mul]
    omega
  | rep op b fin r ihb ihr =>
    intro D h
    obtain ⟨h1, h2, h3, h4⟩ := hf
    simp only [dp] at h
    have i1 := ihr h4 D (by omega)
    obtain ⟨E, rfl⟩ : ∃ E, D = E + 1 := ⟨D - 1, by omega⟩
    have i2 := ihb h3 E (by omega)
    simp only [wr, gone, List.length_cons, List.length_append]
    rw [length_rep, List.length_append]
    have e1 : ((gone b).length + [fin].length) * op.v.toNat ≤ (b.wr * (1 + 2 * E) + 1) * op.v.toNat := Nat.mul_le_mul_right _ (by simp <;> omega)
    have e2 : (b.wr * (1 + 2 * E) + 1) * op.v.toNat = b.wr * (1 + 2 * E) * op.v.toNat + op.v.toNat := by rw [Nat.add_mul, Nat.one_mul]
    have e3 : b.wr * (1 + 2 * E) * op.v.toNat = b.wr * op.v.toNat * (1 + 2 * E) := by rw [Nat.mul_right_comm]
    have e4 : op.v.toNat ≤ b.wr * op.v.toNat := Nat.le_mul_of_pos_left _ h2
    have e5 : (b.wr * op.v.toNat + r.wr) * (1 + 2 * (E + 1)) = b.wr * op.v.toNat * (1 + 2 * E) + 2 * (b.wr * op.v.toNat) + r.wr * (1 + 2 * (E + 1)) := by
      rw [Nat.add_mul]
      have : 1 + 2 * (E + 1) = (1 + 2 * E) + 2 := by omega
      rw [this, Nat.mul_add]
      omega
    rw [e5]
    omega
end Fo

/-! ### The machine that goes through code -/
/-- A step: where it stands, how often each open block is still to come, the instruction there. -/
structure Tk where
  at' : Nat
  st : List UInt64
  op : OpD
  to : Int
def Tk.next (x : Tk) : Nat × List UInt64 :=
  if x.op.kind = 7 then (x.at' + 1, x.st ++ [x.op.v])
  else if x.op.kind = 0 then (if 1 < (x.st.getLast?.getD 0).toNat then (x.to.toNat, x.st.dropLast ++ [x.st.getLast?.getD 0 - 1]) else (x.at' + 1, x.st.dropLast))
  else (x.at' + 1, x.st)
/-- Steps one after the other. -/
def Chn (c : List (OpD × Int)) : Nat × List UInt64 → List Tk → Nat × List UInt64 → Prop
  | s, [], e => s = e
  | s, x :: r, e => s = (x.at', x.st) ∧ c[x.at']? = some (x.op, x.to) ∧ Chn c x.next r e
theorem Chn.append {c : List (OpD × Int)} {s m e : Nat × List UInt64} {a b : List Tk} (h1 : Chn c s a m) (h2 : Chn c m b e) : Chn c s (a ++ b) e := by
  induction a generalizing s with
  | nil => obtain rfl : s = m := h1; exact h2
  | cons x r ih => exact ⟨h1.1, h1.2.1, ih h1.2.2⟩
/-- A block's rounds, `k` of them still to come. -/
def trR (b : List UInt64 → List Tk) (e : Nat) (fin : OpD) (to : Int) (st : List UInt64) : Nat → List Tk
  | 0 => []
  | k + 1 => b (st ++ [UInt64.ofNat (k + 1)]) ++ ⟨e, st ++ [UInt64.ofNat (k + 1)], fin, to⟩ :: trR b e fin to st k
def Fo.tr : Nat → Fo → List UInt64 → List Tk
  | _, .nil, _ => []
  | o, .leaf op r, st => ⟨o, st, op, 0⟩ :: tr (o + 1) r st
  | o, .rep op b fin r, st => ⟨o, st, op, ((o + b.size + 2 : Nat) : Int)⟩ :: (trR (tr (o + 1) b) (o + b.size + 1) fin ((o + 1 : Nat) : Int) st op.v.toNat ++ tr (o + b.size + 2) r st)
theorem ofNat_toNat' (v : UInt64) : UInt64.ofNat v.toNat = v := by
  cases v; simp
theorem toNat_ofNat' {k : Nat} (h : k < 18446744073709551616) : (UInt64.ofNat k).toNat = k := by
  rw [UInt64.toNat_ofNat']; exact Nat.mod_eq_of_lt h
theorem trR_chn {c : List (OpD × Int)} {b : List UInt64 → List Tk} {o e : Nat} {fin : OpD} {to : Int} {st : List UInt64} (h0 : fin.kind = 0) (hc : c[e]? = some (fin, to)) (hto : to = (o : Int))
    (hb : ∀ s, Chn c (o, s) (b s) (e, s)) : ∀ k : Nat, 1 ≤ k → k < 18446744073709551616 → Chn c (o, st ++ [UInt64.ofNat k]) (trR b e fin to st k) (e + 1, st) := by
  intro k
  induction k with
  | zero => intro h; omega
  | succ k ih =>
    intro _ hk
    unfold trR
    refine Chn.append (hb _) ⟨rfl, hc, ?_⟩
    have hl : (st ++ [UInt64.ofNat (k + 1)]).getLast?.getD 0 = UInt64.ofNat (k + 1) := by simp
    have hn : (UInt64.ofNat (k + 1)).toNat = k + 1 := toNat_ofNat' hk
    by_cases h1 : k = 0
    · subst h1
      show Tk.next _ = _
      unfold Tk.next
      rw [if_neg (by simp [h0]), if_pos h0]
      simp only [hl, hn]
      rw [if_neg (by omega)]
      simp
    · have : Tk.next ⟨e, st ++ [UInt64.ofNat (k + 1)], fin, to⟩ = (o, st ++ [UInt64.ofNat k]) := by
        unfold Tk.next
        rw [if_neg (by simp [h0]), if_pos h0]
        simp only [hl, hn]
        rw [if_pos (by omega), hto]
        have e2 : UInt64.ofNat (k + 1) - 1 = UInt64.ofNat k := by
          rw [show UInt64.ofNat (k + 1) = UInt64.ofNat k + 1 by simp [UInt64.ofNat_add]]
          simp
        rw [e2]
        simp
      rw [this]
      exact ih (by omega) (by omega)
theorem Fo.tr_chn (f : Fo) (hf : f.ok) (hv : f.full) : ∀ (c pre post : List (OpD × Int)) (o : Nat) (st : List UInt64), c = pre ++ f.code o ++ post → pre.length = o → Chn c (o, st) (f.tr o st) (o + f.size, st) := by
  induction f with
  | nil => intro c pre post o st _ _; show (o, st) = (o + 0, st); rfl
  | leaf op r ih =>
    intro c pre post o st hc hp
    obtain ⟨h1, h2, h3⟩ := hf
    refine ⟨rfl, ?_, ?_⟩
    · subst hp; rw [hc]; simp [code]
    · have : Tk.next ⟨o, st, op, 0⟩ = (o + 1, st) := by unfold Tk.next; rw [if_neg (by simp only; omega), if_neg (by simp only; omega)]
      rw [this, Fo.size_leaf, show o + (r.size + 1) = o + 1 + r.size by omega]
      exact ih h3 hv c (pre ++ [(op, 0)]) post (o + 1) st (by rw [hc]; simp [code]) (by simp [hp])
  | rep op b fin r ihb ihr =>
    intro c pre post o st hc hp
    obtain ⟨h1, h2, h3, h4⟩ := hf
    obtain ⟨v1, v2, v3, v4⟩ := hv
    refine ⟨rfl, ?_, ?_⟩
    · subst hp; rw [hc]; simp [code]
    · have hn : Tk.next ⟨o, st, op, ((o + b.size + 2 : Nat) : Int)⟩ = (o + 1, st ++ [UInt64.ofNat op.v.toNat]) := by unfold Tk.next; rw [if_pos h1, ofNat_toNat']
      rw [hn]
      have hce : c = (pre ++ (op, ((o + b.size + 2 : Nat) : Int)) :: b.code (o + 1)) ++ (fin, ((o + 1 : Nat) : Int)) :: (r.code (o + b.size + 2) ++ post) := by rw [hc]; simp [code]
      have hat : c[o + b.size + 1]? = some (fin, ((o + 1 : Nat) : Int)) := by
        rw [hce, List.getElem?_append_right (by simp [code_length] <;> omega)]
        simp only [List.length_append, List.length_cons, code_length]
        rw [show o + b.size + 1 - (pre.length + (b.size + 1)) = 0 by omega]
        rfl
      refine Chn.append (m := (o + b.size + 2, st)) ?_ ?_
      · refine trR_chn (o := o + 1) h3 hat rfl (fun s => ?_) op.v.toNat v1 op.v.toNat_lt
        have := ihb h2 v3 c (pre ++ [(op, ((o + b.size + 2 : Nat) : Int))]) ((fin, ((o + 1 : Nat) : Int)) :: (r.code (o + b.size + 2) ++ post)) (o + 1) s (by rw [hce]; simp) (by simp [hp])
        rwa [show o + 1 + b.size = o + b.size + 1 by omega] at this
      · rw [Fo.size_rep, show o + (b.size + r.size + 2) = o + b.size + 2 + r.size by omega]
        exact ihr h4 v4 c (pre ++ (op, ((o + b.size + 2 : Nat) : Int)) :: (b.code (o + 1) ++ [(fin, ((o + 1 : Nat) : Int))])) post (o + b.size + 2) st (by rw [hce]; simp) (by simp [code_length, hp] <;> omega)

theorem trR_ops {b : List UInt64 → List Tk} {g : List OpD} {e : Nat} {fin : OpD} {to : Int} {st : List UInt64} (h : ∀ s, (b s).map (·.op) = g) : ∀ k, (trR b e fin to st k).map (·.op) = (List.replicate k (g ++ [fin])).flatten := by
  intro k
  induction k with
  | zero => rfl
  | succ k ih => simp [trR, h, ih, List.replicate_succ]
theorem Fo.tr_ops (f : Fo) : ∀ (o : Nat) (st : List UInt64), (f.tr o st).map (·.op) = f.gone := by
  induction f with
  | nil => intro o st; rfl
  | leaf op r ih => intro o st; simp [tr, gone, ih]
  | rep op b fin r ihb ihr =>
    intro o st
    simp only [tr, gone, List.map_cons, List.map_append, ihr]
    rw [trR_ops (g := b.gone) (fun s => ihb _ s)]
/-- the writes among operations -/
def wrs (l : List OpD) : List OpD := l.filter (fun x => decide (x.kind ≠ 7) && decide (x.kind ≠ 0))
theorem wrs_append (a b : List OpD) : wrs (a ++ b) = wrs a ++ wrs b := List.filter_append ..
theorem wrs_rep (n : Nat) (l : List OpD) : wrs (List.replicate n l).flatten = (List.replicate n (wrs l)).flatten := by
  induction n with
  | zero => rfl
  | succ n ih => simp only [List.replicate_succ, List.flatten_cons, wrs_append, ih]
theorem Fo.gone_wrs (f : Fo) (hf : f.ok) : wrs f.gone = f.unroll := by
  induction f with
  | nil => rfl
  | leaf op r ih =>
    obtain ⟨h1, h2, h3⟩ := hf
    show wrs (op :: r.gone) = op :: r.unroll
    unfold wrs
    rw [List.filter_cons, if_pos (by simp <;> omega)]
    congr 1
    exact ih h3
  | rep op b fin r ihb ihr =>
    obtain ⟨h1, h2, h3, h4⟩ := hf
    have e1 : wrs [fin] = [] := by simp [wrs, h3]
    have e2 : wrs [op] = [] := by simp [wrs, h1]
    show wrs ([op] ++ ((List.replicate op.v.toNat (b.gone ++ [fin])).flatten ++ r.gone)) = _
    rw [wrs_append, wrs_append, wrs_rep, wrs_append, e1, e2, ihb h2, ihr h4]
    simp [unroll]
/-- How many blocks are open at most. -/
theorem trR_depth {b : List UInt64 → List Tk} {e : Nat} {fin : OpD} {to : Int} {st : List UInt64} {P : Tk → Prop} (hb : ∀ k : Nat, ∀ x ∈ b (st ++ [UInt64.ofNat (k + 1)]), P x) (he : ∀ k : Nat, P ⟨e, st ++ [UInt64.ofNat (k + 1)], fin, to⟩) : ∀ k, ∀ x ∈ trR b e fin to st k, P x := by
  intro k
  induction k with
  | zero => intro x hx; cases hx
  | succ k ih =>
    intro x hx
    unfold trR at hx
    rcases List.mem_append.1 hx with hx | hx
    · exact hb k x hx
    · rcases List.mem_cons.1 hx with rfl | hx
      · exact he k
      · exact ih x hx
/-- What each step is like: where it stands, how deep, which instruction. -/
def TkOk (n D : Nat) (ops : List OpD) (x : Tk) : Prop := x.at' < n ∧ x.st.length ≤ D ∧ (x.op.kind = 7 → x.st.length < D) ∧ (x.op.kind = 0 → x.st ≠ []) ∧ x.op ∈ ops ∧ 0 ≤ x.op.kind ∧ x.op.kind ≤ 7 ∧ 0 ≤ x.to ∧ x.to ≤ (n : Int)
theorem TkOk.mono {n m D : Nat} {a b : List OpD} {x : Tk} (h : TkOk n D a x) (hn : n ≤ m) (hs : ∀ y ∈ a, y ∈ b) : TkOk m D b x :=
  ⟨by have := h.1; omega, h.2.1, h.2.2.1, h.2.2.2.1, hs _ h.2.2.2.2.1, h.2.2.2.2.2.1, h.2.2.2.2.2.2.1, h.2.2.2.2.2.2.2.1, by have := h.2.2.2.2.2.2.2.2; omega⟩
theorem Fo.tr_tk (f : Fo) (hf : f.ok) : ∀ (o D : Nat) (st : List UInt64), st.length + f.dp ≤ D → ∀ x ∈ f.tr o st, TkOk (o + f.size) D f.flat x := by
  induction f with
  | nil => intro o D st _ x hx; cases hx
  | leaf op r ih =>
    intro o D st hD x hx
    obtain ⟨h1, h2, h3⟩ := hf
    rcases List.mem_cons.1 hx with rfl | hx
    · exact ⟨by rw [Fo.size_leaf]; simp <;> omega, by simp <;> omega, fun h => by simp at h; omega, fun h => by simp at h; omega, by simp [flat], by simp <;> omega, by simp <;> omega, by simp, by simp <;> omega⟩
    · exact (ih h3 (o + 1) D st hD x hx).mono (by rw [Fo.size_leaf]; omega) (fun y hy => by simp [flat, hy])
  | rep op b fin r ihb ihr =>
    intro o D st hD x hx
    obtain ⟨h1, h2, h3, h4⟩ := hf
    simp only [dp] at hD
    rcases List.mem_cons.1 hx with rfl | hx
    · exact ⟨by rw [Fo.size_rep]; simp <;> omega, by simp <;> omega, fun h => by simp <;> omega, fun h => by simp at h; omega, by simp [flat], by simp [h1], by simp [h1], by simp <;> omega, by rw [Fo.size_rep]; simp <;> omega⟩
    · rcases List.mem_append.1 hx with hx | hx
      · refine trR_depth (P := TkOk (o + (Fo.rep op b fin r).size) D (Fo.rep op b fin r).flat) (fun k y hy => ?_) (fun k => ?_) _ x hx
        · exact (ihb h2 (o + 1) D _ (by simp <;> omega) y hy).mono (by rw [Fo.size_rep]; omega) (fun y hy => by simp [flat, hy])
        · exact ⟨by rw [Fo.size_rep]; simp <;> omega, by simp <;> omega, fun h => by simp [h3] at h, fun h => by simp, by simp [flat], by simp [h3], by simp [h3], by simp <;> omega, by rw [Fo.size_rep]; simp <;> omega⟩
      · exact (ihr h4 (o + b.size + 2) D st (by omega) x hx).mono (by rw [Fo.size_rep]; omega) (fun y hy => by simp [flat, hy])
end Go.Proofs.Ytoklehndfncmnaa
