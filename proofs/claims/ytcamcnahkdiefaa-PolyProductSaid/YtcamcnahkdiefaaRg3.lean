/- A region that draws its order: reads wherever they stand, then operations one behind the other that leave what is read, then what waits for all reads. -/
import Derived.Test.YtcamcnahkdiefaaRg2
namespace Go.Proofs.Ytcamcnahkdiefaa
set_option linter.unusedVariables false
set_option linter.unusedSimpArgs false
open Go.RowKit
section
variable {P : Program} {l : List Oper} {Q : Exit → Act → World → Prop} {md : Region.Mode} {S : World → Prop} {late : Nat → Bool}
/-- the operations at these places -/
def pickL (l : List Oper) (is : List Nat) : List Oper := is.filterMap fun i => l[i]?
theorem pickL_nil (l : List Oper) : pickL l [] = [] := rfl
theorem pickL_cons {l : List Oper} {i : Nat} {o : Oper} (h : l[i]? = some o) (is : List Nat) : pickL l (i :: is) = o :: pickL l is := by
  unfold pickL; rw [List.filterMap_cons, h]
/-- May all be taken in this order? what has come then -/
def goHeadL (md : Region.Mode) (ops : Array Oper) : List Nat → Array Bool → Option (Array Bool)
  | [], done => some done
  | i :: is, done => if (Region.ready md ops done).contains i && Region.free md ops done i then goHeadL md ops is (done.setIfInBounds i true) else none
/-- Is this the only order? -/
def seqL (md : Region.Mode) (ops : Array Oper) : List Nat → Array Bool → Bool
  | [], done => decide (Region.ready md ops done = [])
  | i :: is, done => decide (Region.ready md ops done = [i]) && seqL md ops is (done.setIfInBounds i true)
theorem ready_op {ops : Array Oper} {done : Array Bool} {i : Nat} (h : i ∈ Region.ready md ops done) : ∃ o, ops[i]? = some o := by
  obtain ⟨_, oj, hoj, _⟩ := mem_ready.1 h
  exact ⟨oj, hoj⟩
theorem anyK_headL {g : Nat} {fin : Array Bool} (hs : Region.noSelect l.toArray = true) (hQ : ∀ c a w i v, Q (.panic c) (Act.put a i v) w → Q (.panic c) a w) :
    ∀ (is : List Nat) (done : Array Bool) (a : Act) (w : World), (∀ i ∈ is, ∀ j oj, l.toArray[j]? = some oj → late j = true → ∃ e ∈ oj.after, Region.binds md e = true ∧ e.on = i) →
      goHeadL md l.toArray is done = some fin → S w → headK P l.toArray S (fun a' => anyK P md l.toArray Q S late g fin a' w) (pickL l is) a → anyK P md l.toArray Q S late (is.length + g) done a w
  | [], done, a, w, _, hg, hS, h => by
    simp only [goHeadL, Option.some.injEq] at hg
    subst hg
    rw [List.length_nil, Nat.zero_add]
    exact h
  | i :: is, done, a, w, hlate, hg, hS, h => by
    simp only [goHeadL] at hg
    split at hg
    · rename_i hc
      simp only [Bool.and_eq_true] at hc
      have hi : i ∈ Region.ready md l.toArray done := by simpa using hc.1
      obtain ⟨o, h0⟩ := ready_op hi
      rw [pickL_cons (by simpa using h0)] at h
      obtain ⟨v, hy, hK⟩ := h
      rw [List.length_cons, show is.length + 1 + g = is.length + g + 1 by omega]
      exact anyK_take h0 (Region.noSelect_spec hs) (fun c a w => hQ c a w _ _) (hlate i List.mem_cons_self) _ _ _ _ (Region.free_spec h0 hc.2) hi hy hS
        (anyK_headL hs hQ is _ _ w (fun j hj => hlate j (List.mem_cons_of_mem _ hj)) hg hS hK)
    · cases hg
theorem anyK_seqL : ∀ (is : List Nat) (done : Array Bool) (a : Act) (w : World), (∀ i ∈ is, late i = true) →
    seqL md l.toArray is done = true → wpList P l.toArray Q (pickL l is) a w → anyK P md l.toArray Q S late is.length done a w
  | [], _, _, _, _, hB, h => ⟨by simpa [seqL] using hB, h⟩
  | i :: is, done, a, w, hL, hB, h => by
    simp only [seqL, Bool.and_eq_true, decide_eq_true_eq] at hB
    obtain ⟨o, h0⟩ := ready_op (md := md) (i := i) (ops := l.toArray) (done := done) (by rw [hB.1]; simp)
    rw [pickL_cons (by simpa using h0)] at h
    refine ⟨fun h1 => (by rw [hB.1] at h1; cases h1), fun j hj => ?_⟩
    rw [hB.1] at hj
    have hij : j = i := by simpa using hj
    subst hij
    have hw : wpOp P l.toArray Q j (wpList P l.toArray Q (pickL l is)) a w := by unfold wpOp; simp only [h0]; exact h
    exact wpOp_mono (fun a' w' h' => ⟨.inl (hL j List.mem_cons_self), anyK_seqL is _ a' w' (fun x hx => hL x (List.mem_cons_of_mem _ hx)) hB.2 h'⟩) hw
theorem anyK_midL {tl : List Nat} : ∀ (mid : List Nat) (done : Array Bool) (a : Act) (w : World), (∀ j ∈ tl, late j = true) →
    seqL md l.toArray (mid ++ tl) done = true → midK P l.toArray Q S (pickL l mid) (pickL l tl) a w → anyK P md l.toArray Q S late (mid ++ tl).length done a w
  | [], done, a, w, hL, hB, h => anyK_seqL tl done a w hL hB h
  | i :: mid, done, a, w, hL, hB, h => by
    simp only [List.cons_append, List.length_cons, seqL, Bool.and_eq_true, decide_eq_true_eq] at hB
    obtain ⟨o, h0⟩ := ready_op (md := md) (i := i) (ops := l.toArray) (done := done) (by rw [hB.1]; simp)
    rw [pickL_cons (by simpa using h0)] at h
    refine ⟨fun h1 => (by rw [hB.1] at h1; cases h1), fun j hj => ?_⟩
    rw [hB.1] at hj
    have hij : j = i := by simpa using hj
    subst hij
    unfold wpOp
    simp only [h0]
    have h1 := h (fun a' w' => (late j = true ∨ S w') ∧ anyK P md l.toArray Q S late (mid ++ tl).length (done.setIfInBounds j true) a' w') (fun a2 w2 hs2 hw2 => ⟨.inr hs2,
      anyK_midL mid _ a2 w2 hL hB.2 hw2⟩)
    split
    · rename_i hw; rw [if_pos hw] at h1; exact .inl h1
    · rename_i hw; rw [if_neg hw] at h1; exact h1
def listB (ops : Array Oper) (hd mid tl : List Nat) : Bool :=
  Region.noSelect ops && decide (hd.length + (mid ++ tl).length = ops.size) && (tl.all fun j => hd.all fun i => Region.waitsFor .any ops j i) &&
  match goHeadL .any ops hd (Array.replicate ops.size false) with
    | some fin => seqL .any ops (mid ++ tl) fin
    | none => false
/-- Reads at the places `hd`, the operations at `mid`, those at `tl`: by this one order. -/
theorem wp_region_list {id : Nat} {a : Act} {w : World} (hd mid tl : List Nat) (S : World → Prop) (hm : P.follows .mixedOrders = true) (hB : listB l.toArray hd mid tl = true) (hS : S w.drew)
    (h : headK P l.toArray S (fun a' => midK P l.toArray (NoPanic Q) S (pickL l mid) (pickL l tl) a' w.drew) (pickL l hd) a) : (Code.region id l.toArray true).wp P Q a w := by
  refine wp_region_noPanic (wp_region_any hm ?_)
  simp only [listB, Bool.and_eq_true, decide_eq_true_eq] at hB
  obtain ⟨⟨⟨hs, hn⟩, hlB⟩, hg⟩ := hB
  cases hgo : goHeadL .any l.toArray hd (Array.replicate l.toArray.size false) with
  | none => rw [hgo] at hg; cases hg
  | some fin =>
    rw [hgo] at hg
    simp only at hg
    refine anyK_any (S := S) (late := fun j => tl.contains j) _ _ _ _ ?_
    have key : ∀ (ll : List Oper) (a0 : Act), headK P l.toArray S (fun a' => midK P l.toArray (NoPanic Q) S (pickL l mid) (pickL l tl) a' w.drew) ll a0 →
        headK P l.toArray S (fun a' => anyK P .any l.toArray (NoPanic Q) S (fun j => tl.contains j) (mid ++ tl).length fin a' w.drew) ll a0 := by
      intro ll
      induction ll with
      | nil =>
        intro a0 h0
        exact anyK_midL mid fin a0 _ (fun j hj => by simpa using hj) hg h0
      | cons o ll ih =>
        intro a0 h0
        obtain ⟨v, hy, hK⟩ := h0
        exact ⟨v, hy, ih _ hK⟩
    have h1 := anyK_headL (Q := NoPanic Q) (late := fun j => tl.contains j) (g := (mid ++ tl).length) (fin := fin) hs (fun c a w i v hq => by cases hq) hd (Array.replicate l.toArray.size false) a w.drew (fun i hi j oj hj hlt => by
      have hjt : j ∈ tl := by simpa using hlt
      have h3 := List.all_eq_true.1 (List.all_eq_true.1 hlB j hjt) i hi
      obtain ⟨o', ho', e, he, hb, hon⟩ := Region.waitsFor_spec h3
      obtain rfl : o' = oj := Option.some.inj (ho'.symm.trans hj)
      exact ⟨e, he, hb, hon⟩) hgo hS (key _ _ h)
    rw [hn] at h1
    exact h1
end
end Go.Proofs.Ytcamcnahkdiefaa
