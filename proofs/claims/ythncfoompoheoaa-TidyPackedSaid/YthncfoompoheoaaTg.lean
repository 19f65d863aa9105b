/- Plain facts on packed programs: they may be; what they make of registers by their new numbers. No program is named here. -/
import Derived.Test.YthncfoompoheoaaTf
namespace Go.Proofs.Ythncfoompoheoaa
set_option linter.unusedVariables false
set_option linter.unusedSimpArgs false
open Go.RowKit

/-- all operations turned -/
def Fo.mapO (g : OpD → OpD) : Fo → Fo
  | .nil => .nil
  | .leaf op r => .leaf (g op) (mapO g r)
  | .rep op b fin r => .rep (g op) (mapO g b) (g fin) (mapO g r)
theorem Fo.flat_mapO (g : OpD → OpD) (f : Fo) : (f.mapO g).flat = f.flat.map g := by
  induction f with
  | nil => rfl
  | leaf op r ih => simp [mapO, flat, ih]
  | rep op b fin r ihb ihr => simp [mapO, flat, ihb, ihr]
theorem Fo.size_mapO (g : OpD → OpD) (f : Fo) : (f.mapO g).size = f.size := by unfold size; rw [flat_mapO, List.length_map]
section
variable {g : OpD → OpD} (hk : ∀ x, (g x).kind = x.kind) (hv : ∀ x, (g x).v = x.v)
include hk
theorem Fo.ok_mapO (f : Fo) (hf : f.ok) : (f.mapO g).ok := by
  induction f with
  | nil => trivial
  | leaf op r ih => obtain ⟨h1, h2, h3⟩ := hf; exact ⟨by rw [hk]; exact h1, by rw [hk]; exact h2, ih h3⟩
  | rep op b fin r ihb ihr => obtain ⟨h1, h2, h3, h4⟩ := hf; exact ⟨by rw [hk]; exact h1, ihb h2, by rw [hk]; exact h3, ihr h4⟩
omit hk
include hv
theorem Fo.wr_mapO (f : Fo) : (f.mapO g).wr = f.wr := by
  induction f with
  | nil => rfl
  | leaf op r ih => simp [mapO, wr, ih]
  | rep op b fin r ihb ihr => simp [mapO, wr, ihb, ihr, hv]
theorem Fo.may_mapO (f : Fo) : (f.mapO g).may = f.may := by
  induction f with
  | nil => rfl
  | leaf op r ih => simp [mapO, may, ih]
  | rep op b fin r ihb ihr => simp [mapO, may, ihb, ihr, hv, Fo.wr_mapO hv]
theorem Fo.unroll_mapO (f : Fo) : (f.mapO g).unroll = f.unroll.map g := by
  induction f with
  | nil => rfl
  | leaf op r ih => simp [mapO, unroll, ih]
  | rep op b fin r ihb ihr =>
    simp only [mapO, unroll, List.map_append, ihr, hv]
    congr 1
    rw [ihb]
    generalize op.v.toNat = n
    induction n with
    | zero => rfl
    | succ n ih => simp only [List.replicate_succ, List.flatten_cons, List.map_append, ih]
omit hv
theorem Fo.dp_mapO (f : Fo) : (f.mapO g).dp = f.dp := by
  induction f with
  | nil => rfl
  | leaf op r ih => simp [mapO, dp, ih]
  | rep op b fin r ihb ihr => simp [mapO, dp, ihb, ihr]
end
/-! ### The registers that stay -/
theorem wasL_sorted (keep : Int) (l : List OpD) (k : Nat) : (wasL keep l k).Pairwise (· < ·) := by
  induction k with
  | zero => exact List.Pairwise.nil
  | succ k ih =>
    rw [wasL_succ]
    split
    · refine List.pairwise_append.2 ⟨ih, List.pairwise_singleton _ _, fun v hv z hz => ?_⟩
      simp at hz
      have := wasL_lt keep l k v hv
      omega
    · exact ih
theorem wasL_mem (keep : Int) (l : List OpD) (k j : Nat) (hj : j < k) (h : (j : Int) < keep ∨ askedB l (j : Int) = true) : (j : Int) ∈ wasL keep l k := by
  unfold wasL
  refine List.mem_map.2 ⟨j, List.mem_filter.2 ⟨List.mem_range.2 hj, ?_⟩, rfl⟩
  rcases h with h | h
  · simp [h]
  · simp [h]
theorem wasL_pre (keep : Nat) (l : List OpD) : ∀ k, k ≤ keep → wasL keep l k = (List.range k).map (fun (j : Nat) => (j : Int)) := by
  intro k
  induction k with
  | zero => intro _; rfl
  | succ k ih =>
    intro h
    rw [wasL_succ, if_pos (by rw [show decide ((k : Int) < (keep : Int)) = true from decide_eq_true (by omega)]; rfl), ih (by omega), List.range_succ, List.map_append]
    rfl
theorem wasL_low (keep : Nat) (l : List OpD) : ∀ k, keep ≤ k → ∀ i, i < keep → (wasL keep l k)[i]? = some (i : Int) := by
  intro k
  induction k with
  | zero => intro h i hi; omega
  | succ k ih =>
    intro h i hi
    by_cases e : keep = k + 1
    · rw [wasL_pre keep l (k + 1) (by omega), List.getElem?_map, List.getElem?_range (by omega)]; rfl
    · have h1 := ih (by omega) i hi
      rw [wasL_succ]
      split
      · rw [List.getElem?_append_left (List.getElem?_eq_some_iff.1 h1).1]; exact h1
      · exact h1
theorem plcF_mem (W : List Int) (v : Int) (h : v ∈ W) : ∀ i, ∃ j, plcF W v i = i + j ∧ W[j]? = some v := by
  induction W with
  | nil => cases h
  | cons y r ih =>
    intro i
    unfold plcF
    by_cases e : y = v
    · rw [if_pos e]; exact ⟨0, rfl, by rw [← e]; rfl⟩
    · rw [if_neg e]
      have hv : v ∈ r := (List.mem_cons.1 h).resolve_left (fun h => e h.symm)
      obtain ⟨j, h1, h2⟩ := ih hv (i + 1)
      exact ⟨j + 1, by omega, by simpa using h2⟩
theorem plc_mem {W : List Int} {v : Int} (h : v ∈ W) : 0 ≤ plc W v ∧ (plc W v).toNat < W.length ∧ W[(plc W v).toNat]? = some v := by
  obtain ⟨j, h1, h2⟩ := plcF_mem W v h 0
  unfold plc
  rw [h1, Nat.zero_add]
  exact ⟨by omega, by have := (List.getElem?_eq_some_iff.1 h2).1; simpa using this, by simpa using h2⟩
theorem sorted_inj {W : List Int} (h : W.Pairwise (· < ·)) {i j : Nat} {v : Int} (hi : W[i]? = some v) (hj : W[j]? = some v) : i = j := by
  obtain ⟨hi1, hi2⟩ := List.getElem?_eq_some_iff.1 hi
  obtain ⟨hj1, hj2⟩ := List.getElem?_eq_some_iff.1 hj
  rcases Nat.lt_trichotomy i j with h1 | h1 | h1
  · have := List.pairwise_iff_getElem.1 h i j hi1 hj1 h1; omega
  · exact h1
  · have := List.pairwise_iff_getElem.1 h j i hj1 hi1 h1; omega
/-- A packed program may be. -/
theorem Good.pack {regs : Int} {f : Fo} (g : Good regs f) {keep : Int} (h1 : 1 ≤ keep) (h2 : keep ≤ regs) : Good ((wasL keep f.flat regs.toNat).length : Int) (f.mapO (packO (wasL keep f.flat regs.toNat))) := by
  obtain ⟨W, hW⟩ : ∃ W, wasL keep f.flat regs.toNat = W := ⟨_, rfl⟩
  have hk : ∀ x, (packO W x).kind = x.kind := packO_kind W
  have hv : ∀ x, (packO W x).v = x.v := fun x => by rw [packO_eq]
  have hr1 := g.r1
  have hr2 := g.r2
  have hWl : W.length ≤ regs.toNat := by rw [← hW]; exact wasL_length _ _ _
  have h0 : (0 : Int) ∈ W := by rw [← hW]; exact wasL_mem keep f.flat regs.toNat 0 (by omega) (.inl (by omega))
  have hpos : 0 < W.length := by cases W with | nil => cases h0 | cons _ _ => simp
  have hin : ∀ x ∈ f.flat, ∀ v ∈ valsO x, v ∈ W := fun x hx v hv => by
    have hr := g.vals x hx v hv
    obtain ⟨j, rfl⟩ : ∃ j : Nat, v = j := ⟨v.toNat, by omega⟩
    rw [← hW]
    refine wasL_mem keep f.flat regs.toNat j (by omega) (.inr ?_)
    unfold askedB
    rw [List.any_eq_true]
    exact ⟨_, List.mem_flatMap.2 ⟨x, hx, hv⟩, by simp⟩
  have hpl : ∀ x ∈ f.flat, ∀ v ∈ valsO x, 0 ≤ plc W v ∧ plc W v < (W.length : Int) := fun x hx v hv => by
    have := plc_mem (hin x hx v hv); omega
  have hD : ∀ x, dOf x.kind = true → x.d ∈ valsO x := fun x h => by
    unfold valsO askF; rw [if_pos h]; exact List.mem_map.2 ⟨1, by simp, rfl⟩
  have hA : ∀ x, aOf x.kind = true → x.a ∈ valsO x := fun x h => by
    unfold valsO askF
    rw [if_pos h]
    exact List.mem_map.2 ⟨2, List.mem_append.2 (.inr (by split <;> simp)), rfl⟩
  have hba : ∀ k : Int, bOf k = true → aOf k = true := fun k => by
    unfold bOf aOf
    intro h
    simp only [Bool.and_eq_true, decide_eq_true_eq] at h
    simp only [Bool.or_eq_true, Bool.and_eq_true, decide_eq_true_eq]
    omega
  have hB : ∀ x, bOf x.kind = true → x.b ∈ valsO x := fun x h => by
    unfold valsO askF
    rw [if_pos (hba _ h), if_pos h]
    exact List.mem_map.2 ⟨3, by simp, rfl⟩
  rw [hW]
  refine ⟨f.ok_mapO hk g.ok, by rw [f.size_mapO]; exact g.len, ?_, by omega, by omega, ?_, by rw [f.dp_mapO]; exact g.deep, by rw [f.may_mapO hv]; exact g.may, by rw [f.wr_mapO hv]; exact g.few⟩
  · intro y hy
    rw [f.flat_mapO] at hy
    obtain ⟨x, hx, rfl⟩ := List.mem_map.1 hy
    have hr := g.right x hx
    rw [packO_eq]
    unfold rightB at hr ⊢
    simp only [Bool.and_eq_true] at hr ⊢
    obtain ⟨⟨⟨⟨⟨r1, r2⟩, r3⟩, r4⟩, r5⟩, r6⟩ := hr
    refine ⟨⟨⟨⟨⟨r1, r2⟩, ?_⟩, ?_⟩, ?_⟩, r6⟩
    · by_cases h : dOf x.kind = true
      · rw [if_pos h, h]; have := hpl x hx _ (hD x h); simp [regB]; omega
      · rw [if_neg h]; exact r3
    · by_cases h : aOf x.kind = true
      · rw [if_pos h, h]; have := hpl x hx _ (hA x h); simp [regB]; omega
      · rw [if_neg h]; exact r4
    · by_cases h : bOf x.kind = true
      · rw [if_pos h, h]; have := hpl x hx _ (hB x h); simp [regB]; omega
      · rw [if_neg h]; exact r5
  · intro y hy
    rw [f.flat_mapO] at hy
    obtain ⟨x, hx, rfl⟩ := List.mem_map.1 hy
    rw [packO_eq]
    unfold offB
    simp only
    rw [Bool.or_eq_false_iff, Bool.or_eq_false_iff]
    refine ⟨⟨?_, ?_⟩, ?_⟩
    · by_cases h : aOf x.kind = true
      · rw [if_pos h, h]; have := hpl x hx _ (hA x h); simp; omega
      · simp [h]
    · by_cases h : bOf x.kind = true
      · rw [if_pos h, h]; have := hpl x hx _ (hB x h); simp; omega
      · simp [h]
    · by_cases h : dOf x.kind = true
      · rw [if_pos h, h]; have := hpl x hx _ (hD x h); simp; omega
      · simp [h]
/-! ### Runs -/
/-- registers by their new numbers -/
def relW (W : List Int) (r s : List UInt64) : Prop := s.length = W.length ∧ ∀ (i : Nat) (v : Int), W[i]? = some v → s[i]? = r[v.toNat]?
theorem applyU_eq {x y : OpD} (hk : y.kind = x.kind) (hv : y.v = x.v) {a b a' b' : UInt64} (ha : aOf x.kind = true → a' = a) (hb : bOf x.kind = true → b' = b) : applyU y a' b' = applyU x a b := by
  obtain ⟨k, d, u, v, c⟩ := x
  obtain ⟨k', d', u', v', c'⟩ := y
  simp only at hk hv ha hb
  subst hk hv
  rcases kind8 k' with h | rfl | rfl | rfl | rfl | rfl | rfl | rfl | rfl | h
  all_goals
    first
      | (have h1 := ha rfl; have h2 := hb rfl; subst h1 h2; rfl)
      | (have h1 := ha rfl; subst h1; rfl)
      | rfl
      | (unfold applyU; simp only; repeat' split
         all_goals first | rfl | omega)
theorem relW_step {regs : Int} {W : List Int} (hW : W.Pairwise (· < ·)) (hw : ∀ v ∈ W, 0 ≤ v ∧ v < regs) {x : OpD} (hx : InR regs x) (hd : dOf x.kind = true) (hin : ∀ v ∈ valsO x, v ∈ W) {r s : List UInt64} (hr : (r.length : Int) = regs) (h : relW W r s) : relW W (stepR r x) (stepR s (packO W x)) := by
  have hba : bOf x.kind = true → aOf x.kind = true := by
    unfold bOf aOf
    intro h
    simp only [Bool.and_eq_true, decide_eq_true_eq] at h
    simp only [Bool.or_eq_true, Bool.and_eq_true, decide_eq_true_eq]
    omega
  have hget : ∀ v, v ∈ W → getR s (plc W v) = getR r v := fun v hv => by
    obtain ⟨p1, p2, p3⟩ := plc_mem hv
    have := h.2 _ _ p3
    unfold getR
    rw [this]
  have hDm : x.d ∈ W := hin _ (by unfold valsO askF; rw [if_pos hd]; exact List.mem_map.2 ⟨1, by simp, rfl⟩)
  obtain ⟨q1, q2, q3⟩ := plc_mem hDm
  have hval : applyU (packO W x) (getR s (packO W x).a) (getR s (packO W x).b) = applyU x (getR r x.a) (getR r x.b) := by
    refine applyU_eq (packO_kind W x) (by rw [packO_eq]) (fun ha => ?_) (fun hb => ?_)
    · rw [packO_eq]; simp only; rw [if_pos ha]
      exact hget _ (hin _ (by unfold valsO askF; rw [if_pos ha]; exact List.mem_map.2 ⟨2, List.mem_append.2 (.inr (by split <;> simp)), rfl⟩))
    · rw [packO_eq]; simp only; rw [if_pos hb]
      exact hget _ (hin _ (by unfold valsO askF; rw [if_pos (hba hb), if_pos hb]; exact List.mem_map.2 ⟨3, by simp, rfl⟩))
  unfold stepR
  rw [hval]
  have hpd : (packO W x).d = plc W x.d := by rw [packO_eq]; simp only; rw [if_pos hd]
  rw [hpd]
  refine ⟨by rw [List.length_set]; exact h.1, fun i v hi => ?_⟩
  rw [List.getElem?_set, List.getElem?_set]
  have hvr := hw v (List.mem_of_getElem? hi)
  have hdr := hw _ hDm
  by_cases e : (plc W x.d).toNat = i
  · subst e
    have hvd : x.d = v := by have := q3.symm.trans hi; simpa using this
    subst hvd
    rw [if_pos rfl, if_pos rfl, if_pos (by rw [h.1]; exact q2), if_pos (by omega)]
  · have hne : x.d ≠ v := fun e2 => e (by rw [e2] at q3 ⊢; exact sorted_inj hW q3 hi)
    rw [if_neg e, if_neg (by omega)]
    exact h.2 i v hi
theorem relW_run {regs : Int} {W : List Int} (hW : W.Pairwise (· < ·)) (hw : ∀ v ∈ W, 0 ≤ v ∧ v < regs) (l : List OpD) (hl : ∀ x ∈ l, InR regs x ∧ dOf x.kind = true ∧ ∀ v ∈ valsO x, v ∈ W) : ∀ {r s : List UInt64}, (r.length : Int) = regs → relW W r s → relW W (runR l r) (runR (l.map (packO W)) s) := by
  induction l with
  | nil => intro r s _ h; exact h
  | cons x l ih =>
    intro r s hr h
    obtain ⟨h1, h2, h3⟩ := hl x (by simp)
    exact ih (fun y hy => hl y (by simp [hy])) (by rw [stepR_length]; exact hr) (relW_step hW hw h1 h2 h3 hr h)
theorem relW_start {W : List Int} {r : List UInt64} (hw : ∀ v ∈ W, 0 ≤ v ∧ v < (r.length : Int)) : relW W r (W.map (fun v => (r[v.toNat]?).getD 0)) := by
  refine ⟨by simp, fun i v hi => ?_⟩
  have := hw v (List.mem_of_getElem? hi)
  rw [List.getElem?_map, hi, Option.map_some, List.getElem?_eq_getElem (show v.toNat < r.length by omega)]
  rfl
end Go.Proofs.Ythncfoompoheoaa
