/- Plain facts on packed programs: which registers are asked for, their new numbers. No program is named here. -/
import Derived.Test.YthncfoompoheoaaTe
namespace Go.Proofs.Ythncfoompoheoaa
set_option linter.unusedVariables false
set_option linter.unusedSimpArgs false
open Go.RowKit

/-- a register of an operation, by its field (1, 2, 3) -/
def fldO (x : OpD) (f : Nat) : Int := if f = 1 then x.d else if f = 2 then x.a else x.b
def setO (x : OpD) (f : Nat) (v : Int) : OpD := if f = 1 then ⟨x.kind, v, x.a, x.b, x.v⟩ else if f = 2 then ⟨x.kind, x.d, v, x.b, x.v⟩ else ⟨x.kind, x.d, x.a, v, x.v⟩
/-- the fields an operation asks for -/
def askF (x : OpD) : List Nat := (if dOf x.kind = true then [1] else []) ++ (if aOf x.kind = true then (if bOf x.kind = true then [2, 3] else [2]) else [])
theorem askF_in (x : OpD) : ∀ f ∈ askF x, (f = 1 ∧ dOf x.kind = true) ∨ (f = 2 ∧ aOf x.kind = true) ∨ (f = 3 ∧ bOf x.kind = true) := by
  intro f hf
  unfold askF at hf
  rcases List.mem_append.1 hf with h | h
  · split at h
    · rename_i hd; simp at h; exact .inl ⟨h, hd⟩
    · cases h
  · split at h
    · rename_i ha
      split at h
      · rename_i hb
        simp at h
        rcases h with h | h
        · exact .inr (.inl ⟨h, ha⟩)
        · exact .inr (.inr ⟨h, hb⟩)
      · simp at h; exact .inr (.inl ⟨h, ha⟩)
    · cases h
theorem askF_le (x : OpD) : (askF x).length ≤ 3 := by
  unfold askF
  rw [List.length_append]
  split <;> (split <;> (try split) <;> simp)
def valsO (x : OpD) : List Int := (askF x).map (fldO x)
def askedB (l : List OpD) (k : Int) : Bool := (l.flatMap valsO).any fun v => decide (v = k)
def markU (U : List Bool) (vs : List Int) : List Bool := vs.foldl (fun U v => U.set v.toNat true) U
theorem markU_length (vs : List Int) : ∀ U, (markU U vs).length = U.length := by
  unfold markU
  induction vs with
  | nil => intro U; rfl
  | cons v r ih => intro U; rw [List.foldl_cons, ih, List.length_set]
theorem markU_append (U : List Bool) (a b : List Int) : markU U (a ++ b) = markU (markU U a) b := by unfold markU; rw [List.foldl_append]
theorem markU_snoc (U : List Bool) (a : List Int) (v : Int) : markU U (a ++ [v]) = (markU U a).set v.toNat true := by rw [markU_append]; rfl
theorem markU_get (vs : List Int) : ∀ (U : List Bool) (k : Nat) (b : Bool), (∀ v ∈ vs, 0 ≤ v) → U[k]? = some b → (markU U vs)[k]? = some (b || vs.any fun v => decide (v = (k : Int))) := by
  induction vs with
  | nil => intro U k b _ h; simpa [markU] using h
  | cons v r ih =>
    intro U k b hv h
    have hv0 := hv v (by simp)
    have hk := (List.getElem?_eq_some_iff.1 h).1
    show (markU (U.set v.toNat true) r)[k]? = _
    by_cases e : v.toNat = k
    · rw [ih (U.set v.toNat true) k true (fun z hz => hv z (by simp [hz])) (by rw [List.getElem?_set, if_pos e, if_pos (by omega)])]
      rw [List.any_cons, show decide (v = (k : Int)) = true from decide_eq_true (by omega)]
      simp
    · rw [ih (U.set v.toNat true) k b (fun z hz => hv z (by simp [hz])) (by rw [List.getElem?_set, if_neg e]; exact h)]
      rw [List.any_cons, show decide (v = (k : Int)) = false from decide_eq_false (by omega), Bool.false_or]
def usedAt (regs : Nat) (l : List OpD) (i : Nat) : List Bool := markU (List.replicate regs false) ((l.take i).flatMap valsO)
theorem usedAt_length (regs : Nat) (l : List OpD) (i : Nat) : (usedAt regs l i).length = regs := by unfold usedAt; rw [markU_length]; simp
theorem usedAt_succ (regs : Nat) (l : List OpD) (i : Nat) (x : OpD) (h : l[i]? = some x) : usedAt regs l (i + 1) = markU (usedAt regs l i) (valsO x) := by
  unfold usedAt
  rw [List.take_add_one, h, List.flatMap_append, markU_append]
  simp
theorem usedAt_get (regs : Nat) (l : List OpD) (hl : ∀ v ∈ l.flatMap valsO, 0 ≤ v) (k : Nat) (hk : k < regs) : (usedAt regs l l.length)[k]? = some (askedB l (k : Int)) := by
  unfold usedAt
  rw [List.take_length, markU_get _ _ k false hl (by rw [List.getElem?_replicate, if_pos hk]), Bool.false_or]
  rfl
/-- the registers that stay, of the first k -/
def wasL (keep : Int) (l : List OpD) (k : Nat) : List Int := ((List.range k).filter (fun (j : Nat) => decide ((j : Int) < keep) || askedB l (j : Int))).map (fun (j : Nat) => (j : Int))
theorem wasL_succ (keep : Int) (l : List OpD) (k : Nat) : wasL keep l (k + 1) = if (decide ((k : Int) < keep) || askedB l (k : Int)) = true then wasL keep l k ++ [(k : Int)] else wasL keep l k := by
  unfold wasL
  rw [List.range_succ, List.filter_append, List.map_append]
  split
  · rename_i h
    simp [List.filter_cons, h]
  · rename_i h
    simp [List.filter_cons, h]
theorem wasL_lt (keep : Int) (l : List OpD) (k : Nat) : ∀ v ∈ wasL keep l k, 0 ≤ v ∧ v < (k : Int) := by
  intro v hv
  unfold wasL at hv
  obtain ⟨j, hj, rfl⟩ := List.mem_map.1 hv
  have := (List.mem_filter.1 hj).1
  rw [List.mem_range] at this
  omega
theorem wasL_length (keep : Int) (l : List OpD) (k : Nat) : (wasL keep l k).length ≤ k := by
  unfold wasL
  rw [List.length_map]
  exact Nat.le_trans (List.length_filter_le _ _) (by simp)
/-- a number's place in a list; 0, if it is not there -/
def plcF : List Int → Int → Nat → Nat
  | [], _, _ => 0
  | y :: r, n, i => if y = n then i else plcF r n (i + 1)
def plc (l : List Int) (n : Int) : Int := (plcF l n 0 : Nat)
theorem plcF_ne (l : List Int) (v n : Int) (h : n ≠ v) : ∀ i, plcF (l ++ [v]) n i = plcF l n i := by
  induction l with
  | nil => intro i; simp only [List.nil_append, plcF]; rw [if_neg (fun e => h e.symm)]
  | cons y r ih => intro i; simp only [List.cons_append, plcF, ih]
theorem plcF_eq (l : List Int) (v : Int) (h : v ∉ l) : ∀ i, plcF (l ++ [v]) v i = i + l.length := by
  induction l with
  | nil => intro i; simp [plcF]
  | cons y r ih =>
    intro i
    simp only [List.cons_append, plcF, List.length_cons]
    rw [if_neg (fun e => h (by rw [e]; simp)), ih (fun e => h (by simp [e]))]
    omega
theorem plc_ne (l : List Int) {v n : Int} (h : n ≠ v) : plc (l ++ [v]) n = plc l n := by unfold plc; rw [plcF_ne l v n h]
theorem plc_eq (l : List Int) {v : Int} (h : v ∉ l) : plc (l ++ [v]) v = (l.length : Int) := by unfold plc; rw [plcF_eq l v h, Nat.zero_add]
theorem plcF_lt (l : List Int) (n : Int) : ∀ i, plcF l n i < i + l.length ∨ plcF l n i = 0 := by
  induction l with
  | nil => intro i; exact .inr rfl
  | cons y r ih =>
    intro i
    simp only [plcF, List.length_cons]
    split
    · exact .inl (by omega)
    · rcases ih (i + 1) with h | h
      · exact .inl (by omega)
      · exact .inr h
/-- the first j registers numbered anew -/
def packJ (W : List Int) (x : OpD) (j : Nat) : OpD := ((askF x).take j).foldl (fun y f => setO y f (plc W (fldO y f))) x
def packO (W : List Int) (x : OpD) : OpD := packJ W x (askF x).length
theorem packJ_zero (W : List Int) (x : OpD) : packJ W x 0 = x := rfl
theorem packJ_succ (W : List Int) (x : OpD) (j f : Nat) (h : (askF x)[j]? = some f) : packJ W x (j + 1) = setO (packJ W x j) f (plc W (fldO (packJ W x j) f)) := by
  unfold packJ
  rw [List.take_add_one, h, List.foldl_append]
  rfl
/-- An operation's fields, by which it asks for. -/
theorem askF_cases (x : OpD) : askF x = [] ∨ askF x = [1] ∨ askF x = [2] ∨ askF x = [2, 3] ∨ askF x = [1, 2] ∨ askF x = [1, 2, 3] := by
  unfold askF
  split <;> (split <;> (try split) <;> simp)
theorem packJ_fld (W : List Int) (x : OpD) (j f : Nat) (h : (askF x)[j]? = some f) : fldO (packJ W x j) f = fldO x f := by
  unfold packJ
  rcases askF_cases x with e | e | e | e | e | e <;> rw [e] at h ⊢
  · cases h
  · match j, h with
    | 0, h => rfl
  · match j, h with
    | 0, h => rfl
  · match j, h with
    | 0, h => rfl
    | 1, h => simp at h; subst h; rfl
  · match j, h with
    | 0, h => rfl
    | 1, h => simp at h; subst h; rfl
  · match j, h with
    | 0, h => rfl
    | 1, h => simp at h; subst h; rfl
    | 2, h => simp at h; subst h; rfl
theorem packO_eq (W : List Int) (x : OpD) : packO W x = ⟨x.kind, if dOf x.kind = true then plc W x.d else x.d, if aOf x.kind = true then plc W x.a else x.a, if bOf x.kind = true then plc W x.b else x.b, x.v⟩ := by
  have hb : bOf x.kind = true → aOf x.kind = true := by
    unfold bOf aOf
    intro h
    simp only [Bool.and_eq_true, decide_eq_true_eq] at h
    simp only [Bool.or_eq_true, Bool.and_eq_true, decide_eq_true_eq]
    omega
  unfold packO packJ
  rw [List.take_length]
  unfold askF
  by_cases h1 : dOf x.kind = true
  · by_cases h2 : aOf x.kind = true
    · by_cases h3 : bOf x.kind = true
      · simp only [h1, h2, h3, if_true]; rfl
      · simp only [h1, h2, h3, if_true, if_false]; rfl
    · have h3 : ¬ bOf x.kind = true := fun h => h2 (hb h)
      simp only [h1, h2, h3, if_true, if_false]; rfl
  · by_cases h2 : aOf x.kind = true
    · by_cases h3 : bOf x.kind = true
      · simp only [h1, h2, h3, if_true, if_false]; rfl
      · simp only [h1, h2, h3, if_true, if_false]; rfl
    · have h3 : ¬ bOf x.kind = true := fun h => h2 (hb h)
      simp only [h1, h2, h3, if_false]; rfl
theorem packO_kind (W : List Int) (x : OpD) : (packO W x).kind = x.kind := by rw [packO_eq]
/-- the program packed, or why not -/
def packE (regs : Int) (l : List OpD) (keep : Int) : Int := if checkS regs l ≠ 0 then checkS regs l else if keep < 1 ∨ regs < keep then 2 else 0
def packW (regs : Int) (l : List OpD) (keep : Int) : List Int := if packE regs l keep = 0 then wasL keep l regs.toNat else []
def packL (regs : Int) (l : List OpD) (keep : Int) : List OpD := if packE regs l keep = 0 then l.map (packO (wasL keep l regs.toNat)) else []
theorem packE_good {regs : Int} {l : List OpD} {keep : Int} (h : packE regs l keep = 0) : ∃ f : Fo, l = f.flat ∧ Good regs f ∧ 1 ≤ keep ∧ keep ≤ regs := by
  unfold packE at h
  split at h
  · contradiction
  · rename_i hc
    obtain ⟨f, hf, g⟩ := good_of_check (Decidable.not_not.1 hc)
    split at h
    · cases h
    · exact ⟨f, hf, g, by omega, by omega⟩
theorem Good.vals {regs : Int} {f : Fo} (g : Good regs f) : ∀ x ∈ f.flat, ∀ v ∈ valsO x, 0 ≤ v ∧ v < regs := by
  intro x hx v hv
  unfold valsO at hv
  obtain ⟨i, hi, rfl⟩ := List.mem_map.1 hv
  have hk : 1 ≤ x.kind ∧ x.kind ≤ 6 := by
    rcases askF_in x i hi with ⟨_, h⟩ | ⟨_, h⟩ | ⟨_, h⟩
    · unfold dOf at h; simp at h; omega
    · unfold aOf at h; simp at h; omega
    · unfold bOf at h; simp at h; omega
  have h := g.inF x hx hk.1 hk.2
  unfold InR at h
  rcases askF_in x i hi with ⟨rfl, _⟩ | ⟨rfl, _⟩ | ⟨rfl, _⟩
  · exact h.1
  · exact h.2.1
  · exact h.2.2
end Go.Proofs.Ythncfoompoheoaa
