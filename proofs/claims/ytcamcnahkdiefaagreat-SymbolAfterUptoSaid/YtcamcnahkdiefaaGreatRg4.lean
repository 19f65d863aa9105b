/- A region that draws its order: reads wherever they stand, then operations one behind the other that leave what is read, then pure ones that may come anywhere behind, and the tail; what is late waits for the reads by way of others. -/
import Derived.Test.YtcamcnahkdiefaaGreatQy
namespace Go.Proofs.YtcamcnahkdiefaaGreat
set_option linter.unusedVariables false
set_option linter.unusedSimpArgs false
open Go.RowKit
section
variable {P : Program} {ops : Array Oper} {Q : Exit → Act → World → Prop} {md : Region.Mode} {S : World → Prop} {late : Nat → Bool}
/-- what has come has come behind what it waits for -/
def Shut (md : Region.Mode) (ops : Array Oper) (done : Array Bool) : Prop := ∀ k ok, ops[k]? = some ok → done.getD k true = true → ∀ e ∈ ok.after, Region.binds md e = true → done.getD e.on false = true
theorem Shut.new : Shut md ops (Array.replicate ops.size false) := fun k ok hk h => by
  have hlt := (Array.getElem?_eq_some_iff.1 hk).1
  simp [Array.getD, hlt] at h
theorem Shut.take {done : Array Bool} (h : Shut md ops done) {j : Nat} (hj : j ∈ Region.ready md ops done) : Shut md ops (done.setIfInBounds j true) := fun k ok hk hd e he hb => by
  by_cases e1 : j = k
  · subst e1
    obtain ⟨_, oj, hoj, hall⟩ := mem_ready.1 hj
    obtain rfl : oj = ok := Option.some.inj (hoj.symm.trans hk)
    exact getD_set_true (hall e he hb)
  · rw [getD_set_ne true e1] at hd
    exact getD_set_true (h k ok hk hd e he hb)
/-- does j wait for i, by way of others? -/
def farB (md : Region.Mode) (ops : Array Oper) : Nat → Nat → Nat → Bool
  | 0, _, _ => false
  | n + 1, j, i => match ops[j]? with
    | none => false
    | some o => o.after.any fun e => Region.binds md e && (decide (e.on = i) || farB md ops n e.on i)
theorem getD_ft {done : Array Bool} {k : Nat} (h : done.getD k false = true) : done.getD k true = true := by
  rcases Nat.lt_or_ge k done.size with h' | h'
  · simp [Array.getD, h'] at h ⊢; exact h
  · simp [Array.getD, Nat.not_lt.2 h'] at h
theorem getD_tf {done : Array Bool} {k : Nat} (h : done.getD k true = false) : done.getD k false = false := by
  rcases Nat.lt_or_ge k done.size with h' | h'
  · simp [Array.getD, h'] at h ⊢; exact h
  · simp [Array.getD, Nat.not_lt.2 h'] at h
theorem far_shut {done : Array Bool} (hS : Shut md ops done) {i : Nat} (hi : done.getD i false = false) : ∀ (n j : Nat), farB md ops n j i = true → done.getD j true = true → False
  | 0, j, h, _ => by simp [farB] at h
  | n + 1, j, h, hd => by
    unfold farB at h
    cases ho : ops[j]? with
    | none => rw [ho] at h; cases h
    | some o =>
      rw [ho] at h
      obtain ⟨k, hk, h1⟩ := Array.any_eq_true.1 h
      simp only [Bool.and_eq_true, Bool.or_eq_true, decide_eq_true_eq] at h1
      have h2 := hS j o ho hd o.after[k] (Array.getElem_mem hk) h1.1
      rcases h1.2 with e | e
      · rw [e, hi] at h2; cases h2
      · exact far_shut hS hi n _ e (getD_ft h2)
theorem far_ready {done : Array Bool} (hS : Shut md ops done) {i j n : Nat} (hi : done.getD i false = false) (hj : j ∈ Region.ready md ops done) (h : farB md ops n j i = true) : False := by
  cases n with
  | zero => simp [farB] at h
  | succ n =>
    unfold farB at h
    obtain ⟨_, o, ho, hall⟩ := mem_ready.1 hj
    rw [ho] at h
    obtain ⟨k, hk, h1⟩ := Array.any_eq_true.1 h
    simp only [Bool.and_eq_true, Bool.or_eq_true, decide_eq_true_eq] at h1
    have h2 := hall o.after[k] (Array.getElem_mem hk) h1.1
    rcases h1.2 with e | e
    · rw [e, hi] at h2; cases h2
    · exact far_shut hS hi n _ e (getD_ft h2)
/-- has a late one come? -/
def brk (late : Nat → Bool) (done : Array Bool) : Prop := ∃ k, late k = true ∧ done.getD k false = true
/-- Whatever order is picked: behind each operation that is not late the condition holds, as long as no late one has come. -/
def anyB (P : Program) (md : Region.Mode) (ops : Array Oper) (Q : Exit → Act → World → Prop) (S : World → Prop) (late : Nat → Bool) : Nat → Array Bool → Act → World → Prop
  | 0, done, a, w => Region.ready md ops done = [] ∧ Q .normal a w
  | n + 1, done, a, w => (Region.ready md ops done = [] → Q .normal a w) ∧
    ∀ i ∈ Region.ready md ops done, wpOp P ops Q i (fun a' w' => (brk late done ∨ late i = true ∨ S w') ∧ anyB P md ops Q S late n (done.setIfInBounds i true) a' w') a w
theorem anyB_any : ∀ (n : Nat) (done : Array Bool) (a : Act) (w : World), anyB P md ops Q S late n done a w → wpAny P md ops Q n done a w
  | 0, _, _, _, h => h
  | n + 1, _, _, _, h => ⟨h.1, fun i hi => wpOp_mono (fun a' w' h' => anyB_any n _ a' w' h'.2) (h.2 i hi)⟩
theorem anyB_take {i : Nat} {oi : Oper} {v : Value} (hi : ops[i]? = some oi) (hsel : ∀ (j : Nat) (o : Oper) cs b, ops[j]? = some o → o.op ≠ .select cs b)
    (hQ : ∀ c a w, Q (.panic c) (a.put oi.dst v) w → Q (.panic c) a w) (hlate : ∀ j, late j = true → farB md ops ops.size j i = true) :
    ∀ (n : Nat) (done : Array Bool) (a : Act) (w : World), Shut md ops done →
      (∀ j oj, ops[j]? = some oj → j ≠ i → done.getD j true = false → (∀ e ∈ oj.after, Region.binds md e = true → e.on ≠ i) → oi.apart ops oj = true) →
      i ∈ Region.ready md ops done → YieldsIf P ops S oi v a → S w → anyB P md ops Q S late n (done.setIfInBounds i true) (a.put oi.dst v) w → anyB P md ops Q S late (n + 1) done a w := by
  intro n
  induction n with
  | zero =>
    intro done a w _ _ hr hy hS H
    refine ⟨fun h => (by rw [h] at hr; cases hr), fun j hj => ?_⟩
    by_cases e : j = i
    · subst e; exact hy.wpOp hi hS ⟨.inr (.inr hS), H⟩
    · have := ready_mono hj e
      rw [H.1] at this
      cases this
  | succ n ih =>
    intro done a w hsh hfree hr hy hS H
    refine ⟨fun h => (by rw [h] at hr; cases hr), fun j hj => ?_⟩
    by_cases e : j = i
    · subst e; exact hy.wpOp hi hS ⟨.inr (.inr hS), H⟩
    · have h1 := H.2 j (ready_mono hj e)
      obtain ⟨hun, oj, hoj, hall⟩ := mem_ready.1 hj
      have hin := getD_tf (mem_ready.1 hr).1
      have hno : ∀ x ∈ oj.after, Region.binds md x = true → x.on ≠ i := fun x hx hb hq => by
        have g1 := hall x hx hb
        rw [hq, hin] at g1
        cases g1
      have hnl : late j ≠ true := fun hl => far_ready hsh hin hj (hlate j hl)
      have hnb : ¬ brk late (done.setIfInBounds i true) := by
        rintro ⟨k, hk1, hk2⟩
        by_cases ek : i = k
        · subst ek; exact far_ready hsh hin hr (hlate i hk1)
        · rw [getD_set_ne false ek] at hk2
          exact far_shut hsh hin _ k (hlate k hk1) (getD_ft hk2)
      have h2 := wpOp_putIf hoj (hfree j oj hoj e hun hno) (fun cs b => hsel i oi cs b hi) (fun cs b => hsel j oj cs b hoj) hQ hy h1
      refine wpOp_mono (fun a' w' h3 => ?_) h2
      have hS' : S w' := (h3.2.1.resolve_left hnb).resolve_left hnl
      refine ⟨.inr (.inr hS'), ih (done.setIfInBounds j true) a' w' (hsh.take hj) (fun k ok hk hki hu hn => ?_) (ready_mono hr (Ne.symm e)) h3.1 hS' ?_⟩
      · refine hfree k ok hk hki ?_ hn
        by_cases hjk : j = k
        · subst hjk; exact hun
        · rw [getD_set_ne true hjk] at hu; exact hu
      · rw [Array.setIfInBounds_comm _ _ e]
        exact h3.2.2
/-- a pure operation that may come anywhere -/
theorem anyB_takeT {i : Nat} {oi : Oper} {v : Value} (hi : ops[i]? = some oi) (hsel : ∀ (j : Nat) (o : Oper) cs b, ops[j]? = some o → o.op ≠ .select cs b)
    (hQ : ∀ c a w, Q (.panic c) (a.put oi.dst v) w → Q (.panic c) a w) (hil : late i = false) :
    ∀ (n : Nat) (done : Array Bool) (a : Act) (w : World),
      (∀ j oj, ops[j]? = some oj → j ≠ i → done.getD j true = false → (∀ e ∈ oj.after, Region.binds md e = true → e.on ≠ i) → oi.apart ops oj = true) →
      i ∈ Region.ready md ops done → YieldsIf P ops (fun _ => True) oi v a → (brk late done ∨ S w) → anyB P md ops Q S late n (done.setIfInBounds i true) (a.put oi.dst v) w → anyB P md ops Q S late (n + 1) done a w := by
  intro n
  induction n with
  | zero =>
    intro done a w _ hr hy hS H
    refine ⟨fun h => (by rw [h] at hr; cases hr), fun j hj => ?_⟩
    by_cases e : j = i
    · subst e; exact hy.wpOp hi trivial ⟨hS.elim .inl (fun h => .inr (.inr h)), H⟩
    · have := ready_mono hj e
      rw [H.1] at this
      cases this
  | succ n ih =>
    intro done a w hfree hr hy hS H
    refine ⟨fun h => (by rw [h] at hr; cases hr), fun j hj => ?_⟩
    by_cases e : j = i
    · subst e; exact hy.wpOp hi trivial ⟨hS.elim .inl (fun h => .inr (.inr h)), H⟩
    · have h1 := H.2 j (ready_mono hj e)
      obtain ⟨hun, oj, hoj, hall⟩ := mem_ready.1 hj
      have hin := getD_tf (mem_ready.1 hr).1
      have hno : ∀ x ∈ oj.after, Region.binds md x = true → x.on ≠ i := fun x hx hb hq => by
        have g1 := hall x hx hb
        rw [hq, hin] at g1
        cases g1
      have hnb : brk late (done.setIfInBounds i true) → brk late done := by
        rintro ⟨k, hk1, hk2⟩
        by_cases ek : i = k
        · subst ek; rw [hil] at hk1; cases hk1
        · rw [getD_set_ne false ek] at hk2
          exact ⟨k, hk1, hk2⟩
      have h2 := wpOp_putIf hoj (hfree j oj hoj e hun hno) (fun cs b => hsel i oi cs b hi) (fun cs b => hsel j oj cs b hoj) hQ hy h1
      refine wpOp_mono (fun a' w' h3 => ?_) h2
      have hc : brk late done ∨ late j = true ∨ S w' := h3.2.1.imp hnb id
      have hjr : j < done.size := by
        rcases Nat.lt_or_ge j done.size with h' | h'
        · exact h'
        · have := (mem_ready.1 hj).1
          simp [Array.getD, Nat.not_lt.2 h'] at this
      have hc2 : brk late (done.setIfInBounds j true) ∨ S w' := by
        rcases hc with ⟨k, hk1, hk2⟩ | hl | hs
        · exact .inl ⟨k, hk1, getD_set_true hk2⟩
        · exact .inl ⟨j, hl, by simp [Array.getD, hjr]⟩
        · exact .inr hs
      refine ⟨hc, ih (done.setIfInBounds j true) a' w' (fun k ok hk hki hu hn => ?_) (ready_mono hr (Ne.symm e)) h3.1 hc2 ?_⟩
      · refine hfree k ok hk hki ?_ hn
        by_cases hjk : j = k
        · subst hjk; exact hun
        · rw [getD_set_ne true hjk] at hu; exact hu
      · rw [Array.setIfInBounds_comm _ _ e]
        exact h3.2.2
end
section
variable {P : Program} {l : List Oper} {Q : Exit → Act → World → Prop} {md : Region.Mode} {S : World → Prop} {late : Nat → Bool}
theorem anyB_headL {g : Nat} {fin : Array Bool} (hs : Region.noSelect l.toArray = true) (hQ : ∀ c a w i v, Q (.panic c) (Act.put a i v) w → Q (.panic c) a w) :
    ∀ (is : List Nat) (done : Array Bool) (a : Act) (w : World), Shut md l.toArray done → (∀ i ∈ is, ∀ j, late j = true → farB md l.toArray l.toArray.size j i = true) →
      goHeadL md l.toArray is done = some fin → S w → headK P l.toArray S (fun a' => anyB P md l.toArray Q S late g fin a' w) (pickL l is) a → anyB P md l.toArray Q S late (is.length + g) done a w
  | [], done, a, w, hsh, _, hg, hS, h => by
    simp only [goHeadL, Option.some.injEq] at hg
    subst hg
    rw [List.length_nil, Nat.zero_add]
    exact h
  | i :: is, done, a, w, hsh, hlate, hg, hS, h => by
    simp only [goHeadL] at hg
    split at hg
    · rename_i hc
      simp only [Bool.and_eq_true] at hc
      have hi : i ∈ Region.ready md l.toArray done := by simpa using hc.1
      obtain ⟨o, h0⟩ := ready_op hi
      rw [pickL_cons (by simpa using h0)] at h
      obtain ⟨v, hy, hK⟩ := h
      rw [List.length_cons, show is.length + 1 + g = is.length + g + 1 by omega]
      exact anyB_take h0 (Region.noSelect_spec hs) (fun c a w => hQ c a w _ _) (hlate i List.mem_cons_self) _ _ _ _ hsh (Region.free_spec h0 hc.2) hi hy hS
        (anyB_headL hs hQ is _ _ w (hsh.take hi) (fun j hj => hlate j (List.mem_cons_of_mem _ hj)) hg hS hK)
    · cases hg
theorem anyB_headT {g : Nat} {fin : Array Bool} (hs : Region.noSelect l.toArray = true) (hQ : ∀ c a w i v, Q (.panic c) (Act.put a i v) w → Q (.panic c) a w) :
    ∀ (is : List Nat) (done : Array Bool) (a : Act) (w : World), (∀ i ∈ is, late i = false) →
      goHeadL md l.toArray is done = some fin → (brk late done ∨ S w) → headK P l.toArray (fun _ => True) (fun a' => anyB P md l.toArray Q S late g fin a' w) (pickL l is) a → anyB P md l.toArray Q S late (is.length + g) done a w
  | [], done, a, w, _, hg, hS, h => by
    simp only [goHeadL, Option.some.injEq] at hg
    subst hg
    rw [List.length_nil, Nat.zero_add]
    exact h
  | i :: is, done, a, w, hlate, hg, hS, h => by
    simp only [goHeadL] at hg
    split at hg
    · rename_i hc
      simp only [Bool.and_eq_true] at hc
      have hi : i ∈ Region.ready md l.toArray done := by simpa using hc.1
      obtain ⟨o, h0⟩ := ready_op hi
      rw [pickL_cons (by simpa using h0)] at h
      obtain ⟨v, hy, hK⟩ := h
      rw [List.length_cons, show is.length + 1 + g = is.length + g + 1 by omega]
      exact anyB_takeT h0 (Region.noSelect_spec hs) (fun c a w => hQ c a w _ _) (hlate i List.mem_cons_self) _ _ _ _ (Region.free_spec h0 hc.2) hi hy hS
        (anyB_headT hs hQ is _ _ w (fun j hj => hlate j (List.mem_cons_of_mem _ hj)) hg (hS.imp (fun ⟨k, h1, h2⟩ => ⟨k, h1, getD_set_true h2⟩) id) hK)
    · cases hg
theorem anyB_seq : ∀ (is : List Nat) (done : Array Bool) (a : Act) (w : World), (∀ i ∈ is, late i = true) →
    seqL md l.toArray is done = true → wpList P l.toArray Q (pickL l is) a w → anyB P md l.toArray Q S late is.length done a w
  | [], _, _, _, _, hB, h => ⟨by simpa [seqL] using hB, h⟩
  | i :: is, done, a, w, hL, hB, h => by
    simp only [seqL, Bool.and_eq_true, decide_eq_true_eq] at hB
    obtain ⟨o, h0⟩ := ready_op (md := md) (i := i) (ops := l.toArray) (done := done) (by rw [hB.1]; simp)
    rw [pickL_cons (by simpa using h0)] at h
    refine ⟨fun h1 => (by rw [hB.1] at h1; cases h1), fun j hj => ?_⟩
    rw [hB.1] at hj
    have hij : j = i := by simpa using hj
    subst hij
    have hw : wpOp P l.toArray Q j (wpList P l.toArray Q (pickL l is)) a w := by unfold wpOp; simp only [h0]; exact h
    exact wpOp_mono (fun a' w' h' => ⟨.inr (.inl (hL j List.mem_cons_self)), anyB_seq is _ a' w' (fun x hx => hL x (List.mem_cons_of_mem _ hx)) hB.2 h'⟩) hw
theorem headK_skip {ops : Array Oper} {L : Act → Prop} {o : Oper} {rest : List Oper} {a : Act} (hw : Region.wanted o (yielded ops a.tmps) = false)
    (h : ∀ a', a' = a.put o.dst undef → headK P ops S L rest a') : headK P ops S L (o :: rest) a := ⟨undef, .inr ⟨hw, rfl⟩, h _ rfl⟩
/-- the middle ones, then anything -/
def midF (P : Program) (ops : Array Oper) (Q : Exit → Act → World → Prop) (S : World → Prop) (F : Act → World → Prop) : List Oper → Act → World → Prop
  | [], a, w => F a w
  | o :: mid, a, w => ∀ K : Act → World → Prop, (∀ a2 w2, S w2 → midF P ops Q S F mid a2 w2 → K a2 w2) → if Region.wanted o (yielded ops a.tmps) = true then Oper.wp P o a w K Q else K (a.put o.dst undef) w
/-- Is this the only order, and what has come then? -/
def seqF (md : Region.Mode) (ops : Array Oper) : List Nat → Array Bool → Option (Array Bool)
  | [], done => some done
  | i :: is, done => if Region.ready md ops done = [i] then seqF md ops is (done.setIfInBounds i true) else none
theorem anyB_midF {g : Nat} {fin : Array Bool} : ∀ (mid : List Nat) (done : Array Bool) (a : Act) (w : World), S w →
    seqF md l.toArray mid done = some fin → midF P l.toArray Q S (fun a w => S w → anyB P md l.toArray Q S late g fin a w) (pickL l mid) a w → anyB P md l.toArray Q S late (mid.length + g) done a w
  | [], done, a, w, hS, hB, h => by
    simp only [seqF, Option.some.injEq] at hB
    subst hB
    rw [List.length_nil, Nat.zero_add]
    exact h hS
  | i :: mid, done, a, w, hS, hB, h => by
    simp only [seqF] at hB
    split at hB
    · rename_i hr
      obtain ⟨o, h0⟩ := ready_op (md := md) (i := i) (ops := l.toArray) (done := done) (by rw [hr]; simp)
      rw [pickL_cons (by simpa using h0)] at h
      rw [List.length_cons, show mid.length + 1 + g = mid.length + g + 1 by omega]
      refine ⟨fun h1 => (by rw [hr] at h1; cases h1), fun j hj => ?_⟩
      have hj' := hj
      rw [hr] at hj'
      have hij : j = i := by simpa using hj'
      subst hij
      unfold wpOp
      simp only [h0]
      have h1 := h (fun a' w' => (brk late done ∨ late j = true ∨ S w') ∧ anyB P md l.toArray Q S late (mid.length + g) (done.setIfInBounds j true) a' w') (fun a2 w2 hs2 hw2 => ⟨.inr (.inr hs2),
        anyB_midF mid _ a2 w2 hs2 hB hw2⟩)
      split
      · rename_i hw; rw [if_pos hw] at h1; exact .inl h1
      · rename_i hw; rw [if_neg hw] at h1; exact h1
    · cases hB
def fanB (ops : Array Oper) (hd mid hd2 tl : List Nat) : Bool :=
  Region.noSelect ops && decide (hd.length + (mid.length + (hd2.length + tl.length)) = ops.size) && (tl.all fun j => hd.all fun i => farB .any ops ops.size j i) && (hd2.all fun j => !tl.contains j) &&
  match goHeadL .any ops hd (Array.replicate ops.size false) with
    | some fin => match seqF .any ops mid fin with
      | some fin2 => match goHeadL .any ops hd2 fin2 with
        | some fin3 => seqL .any ops tl fin3
        | none => false
      | none => false
    | none => false
/-- Reads at the places `hd`, the operations at `mid`, pure ones at `hd2` that may come anywhere behind, those at `tl`: by this one order. -/
theorem wp_region_fan {id : Nat} {a : Act} {w : World} (hd mid hd2 tl : List Nat) (S : World → Prop) (hm : P.follows .mixedOrders = true) (hB : fanB l.toArray hd mid hd2 tl = true) (hS : S w.drew)
    (h : headK P l.toArray S (fun a' => midF P l.toArray (NoPanic Q) S (fun a w => headK P l.toArray (fun _ => True) (fun a' => wpList P l.toArray (NoPanic Q) (pickL l tl) a' w) (pickL l hd2) a) (pickL l mid) a' w.drew) (pickL l hd) a) : (Code.region id l.toArray true).wp P Q a w := by
  refine wp_region_noPanic (wp_region_any hm ?_)
  simp only [fanB, Bool.and_eq_true, decide_eq_true_eq] at hB
  obtain ⟨⟨⟨⟨hs, hn⟩, hlB⟩, hdis⟩, hg⟩ := hB
  cases hgo : goHeadL .any l.toArray hd (Array.replicate l.toArray.size false) with
  | none => rw [hgo] at hg; cases hg
  | some fin =>
    rw [hgo] at hg
    simp only at hg
    cases hsq : seqF .any l.toArray mid fin with
    | none => rw [hsq] at hg; cases hg
    | some fin2 =>
      rw [hsq] at hg
      simp only at hg
      cases hgo2 : goHeadL .any l.toArray hd2 fin2 with
      | none => rw [hgo2] at hg; cases hg
      | some fin3 =>
        rw [hgo2] at hg
        simp only at hg
        refine anyB_any (S := S) (late := fun j => tl.contains j) _ _ _ _ ?_
        have last : ∀ a w, S w → headK P l.toArray (fun _ => True) (fun a' => wpList P l.toArray (NoPanic Q) (pickL l tl) a' w) (pickL l hd2) a →
            anyB P .any l.toArray (NoPanic Q) S (fun j => tl.contains j) (hd2.length + tl.length) fin2 a w := fun a w hS hh => by
          refine anyB_headT (g := tl.length) (fin := fin3) hs (fun c a w i v hq => by cases hq) hd2 fin2 a w (fun i hi => by have := List.all_eq_true.1 hdis i hi; simpa using this) hgo2 (.inr hS) ?_
          have key : ∀ (ll : List Oper) (a0 : Act), headK P l.toArray (fun _ => True) (fun a' => wpList P l.toArray (NoPanic Q) (pickL l tl) a' w) ll a0 →
              headK P l.toArray (fun _ => True) (fun a' => anyB P .any l.toArray (NoPanic Q) S (fun j => tl.contains j) tl.length fin3 a' w) ll a0 := by
            intro ll
            induction ll with
            | nil => exact fun a0 h0 => anyB_seq tl fin3 a0 _ (fun i hi => by simpa using hi) hg h0
            | cons o ll ih =>
              intro a0 h0
              obtain ⟨v, hy, hK⟩ := h0
              exact ⟨v, hy, ih _ hK⟩
          exact key _ _ hh
        have keyM : ∀ (ll : List Oper) (a0 : Act) (w0 : World), midF P l.toArray (NoPanic Q) S (fun a w => headK P l.toArray (fun _ => True) (fun a' => wpList P l.toArray (NoPanic Q) (pickL l tl) a' w) (pickL l hd2) a) ll a0 w0 →
            midF P l.toArray (NoPanic Q) S (fun a w => S w → anyB P .any l.toArray (NoPanic Q) S (fun j => tl.contains j) (hd2.length + tl.length) fin2 a w) ll a0 w0 := by
          intro ll
          induction ll with
          | nil => exact fun a0 w0 h0 hS => last a0 w0 hS h0
          | cons o ll ih =>
            intro a0 w0 h0 K hK
            exact h0 K (fun a2 w2 hs2 hm2 => hK a2 w2 hs2 (ih a2 w2 hm2))
        have keyH : ∀ (ll : List Oper) (a0 : Act), headK P l.toArray S (fun a' => midF P l.toArray (NoPanic Q) S (fun a w => headK P l.toArray (fun _ => True) (fun a' => wpList P l.toArray (NoPanic Q) (pickL l tl) a' w) (pickL l hd2) a) (pickL l mid) a' w.drew) ll a0 →
            headK P l.toArray S (fun a' => anyB P .any l.toArray (NoPanic Q) S (fun j => tl.contains j) (mid.length + (hd2.length + tl.length)) fin a' w.drew) ll a0 := by
          intro ll
          induction ll with
          | nil => exact fun a0 h0 => anyB_midF mid fin a0 _ hS hsq (keyM _ _ _ h0)
          | cons o ll ih =>
            intro a0 h0
            obtain ⟨v, hy, hK⟩ := h0
            exact ⟨v, hy, ih _ hK⟩
        have h1 := anyB_headL (Q := NoPanic Q) (late := fun j => tl.contains j) (g := mid.length + (hd2.length + tl.length)) (fin := fin) hs (fun c a w i v hq => by cases hq) hd (Array.replicate l.toArray.size false) a w.drew Shut.new (fun i hi j hj => by
          have hjt : j ∈ tl := by simpa using hj
          exact List.all_eq_true.1 (List.all_eq_true.1 hlB j hjt) i hi) hgo hS (keyH _ _ h)
        rw [hn] at h1
        exact h1
end
end Go.Proofs.YtcamcnahkdiefaaGreat
