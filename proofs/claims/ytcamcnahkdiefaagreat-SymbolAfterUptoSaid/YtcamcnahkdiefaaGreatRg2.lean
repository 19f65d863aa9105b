/- A region that draws its order: reads, then several calls that leave what is read, one behind the other, then what waits for all reads. -/
import Derived.Test.YtcamcnahkdiefaaGreatQa
namespace Go.Proofs.YtcamcnahkdiefaaGreat
set_option linter.unusedVariables false
set_option linter.unusedSimpArgs false
open Go.RowKit
section
variable {P : Program} {ops : Array Oper} {Q : Exit → Act → World → Prop} {md : Region.Mode} {S : World → Prop} {late : Nat → Bool}

/-- Calls, one behind the other, behind each of which the condition holds; then the rest. -/
def midK (P : Program) (ops : Array Oper) (Q : Exit → Act → World → Prop) (S : World → Prop) : List Oper → List Oper → Act → World → Prop
  | [], tl, a, w => wpList P ops Q tl a w
  | o :: mid, tl, a, w => ∀ K : Act → World → Prop, (∀ a2 w2, S w2 → midK P ops Q S mid tl a2 w2 → K a2 w2) → if Region.wanted o (yielded ops a.tmps) = true then Oper.wp P o a w K Q else K (a.put o.dst undef) w
theorem anyK_mid {tl : List Oper} : ∀ (mid : List Oper) (k : Nat) (done : Array Bool) (a : Act) (w : World), (∀ j, (mid ++ tl)[j]? = ops[k + j]?) → (∀ j, k + mid.length ≤ j → late j = true) →
    Region.seqB md ops (mid ++ tl).length k done = true → midK P ops Q S mid tl a w → anyK P md ops Q S late (mid ++ tl).length done a w
  | [], k, done, a, w, hl, hL, hB, h => anyK_seq tl k done a w hl (fun j hj => hL j (by simpa using hj)) hB h
  | o :: mid, k, done, a, w, hl, hL, hB, h => by
    have h0 : ops[k]? = some o := by simpa using (hl 0).symm
    simp only [List.cons_append, List.length_cons, Region.seqB, Bool.and_eq_true, decide_eq_true_eq] at hB
    refine ⟨fun h1 => (by rw [hB.1] at h1; cases h1), fun i hi => ?_⟩
    rw [hB.1] at hi
    have hik : i = k := by simpa using hi
    subst hik
    unfold wpOp
    simp only [h0]
    have h1 := h (fun a' w' => (late i = true ∨ S w') ∧ anyK P md ops Q S late (mid ++ tl).length (done.setIfInBounds i true) a' w') (fun a2 w2 hs2 hw2 => ⟨.inr hs2,
      anyK_mid mid (i + 1) _ a2 w2 (fun j => by have := hl (j + 1); simpa [Nat.add_assoc, Nat.add_comm 1 j] using this) (fun j hj => hL j (by simp only [List.length_cons]; omega)) hB.2 hw2⟩)
    split
    · rename_i hw; rw [if_pos hw] at h1; exact .inl h1
    · rename_i hw; rw [if_neg hw] at h1; exact h1
/-- Does each operation from number `m` on wait for all of the first `n`? -/
def lateB2 (md : Region.Mode) (ops : Array Oper) (n m : Nat) : Bool :=
  (List.range ops.size).all fun j => decide (j < m) || (List.range n).all fun i => Region.waitsFor md ops j i
def callsB (ops : Array Oper) (n m : Nat) : Bool :=
  Region.noSelect ops && decide (n ≤ m ∧ m ≤ ops.size) && lateB2 .any ops n m && match goHead .any ops n 0 (Array.replicate ops.size false) with
    | some fin => Region.seqB .any ops (ops.size - n) n fin
    | none => false
/-- Reads, calls up to number `m`, what waits for all reads: by the reads in their order, the calls, and the rest in its order. -/
theorem wp_region_calls {id : Nat} {a : Act} {w : World} {l : List Oper} (n m : Nat) (S : World → Prop) (hm : P.follows .mixedOrders = true) (hB : callsB l.toArray n m = true) (hS : S w.drew)
    (h : headK P l.toArray S (fun a' => midK P l.toArray (NoPanic Q) S ((l.drop n).take (m - n)) (l.drop m) a' w.drew) (l.take n) a) : (Code.region id l.toArray true).wp P Q a w := by
  refine wp_region_noPanic (wp_region_any hm ?_)
  simp only [callsB, Bool.and_eq_true, decide_eq_true_eq] at hB
  obtain ⟨⟨⟨hs, hn, hms⟩, hlB⟩, hg⟩ := hB
  cases hgo : goHead .any l.toArray n 0 (Array.replicate l.toArray.size false) with
  | none => rw [hgo] at hg; cases hg
  | some fin =>
    rw [hgo] at hg
    simp only at hg
    have hms' : m ≤ l.length := by simpa using hms
    have htl : (l.take n).length = n := by simp; omega
    have hcat : (l.drop n).take (m - n) ++ l.drop m = l.drop n := by
      have := List.take_append_drop (m - n) (l.drop n)
      rw [List.drop_drop, show n + (m - n) = m by omega] at this
      exact this
    have hdl : (l.drop n).length = l.toArray.size - n := by simp
    have hsz : l.toArray.size = (l.take n).length + (l.toArray.size - n) := by simp; omega
    refine anyK_any (S := S) (late := fun j => decide (m ≤ j)) _ _ _ _ ?_
    rw [hsz]
    have hsz2 : Array.replicate ((l.take n).length + (l.toArray.size - n)) false = Array.replicate l.toArray.size false := by rw [← hsz]
    rw [hsz2]
    refine anyK_head (fin := fin) hs (fun c a w i v hq => by cases hq) (l.take n) 0 _ a _ (fun j hj => ?_) (fun i _ hi j oj hj hlt => ?_) (by rw [htl]; exact hgo) hS ?_
    · have hj' : j < n := by rw [htl] at hj; exact hj
      simp [hj']
    · have hjn : m ≤ j := by simpa using hlt
      have hjs : j < l.toArray.size := (Array.getElem?_eq_some_iff.1 hj).1
      have h1 := List.all_eq_true.1 hlB j (List.mem_range.2 hjs)
      simp only [Bool.or_eq_true, decide_eq_true_eq] at h1
      have h2 := h1.resolve_left (by omega)
      have h3 := List.all_eq_true.1 h2 i (List.mem_range.2 (by rw [htl] at hi; omega))
      obtain ⟨o', ho', e, he, hb, hon⟩ := Region.waitsFor_spec h3
      obtain rfl : o' = oj := Option.some.inj (ho'.symm.trans hj)
      exact ⟨e, he, hb, hon⟩
    · have key : ∀ (ll : List Oper) (a0 : Act), headK P l.toArray S (fun a' => midK P l.toArray (NoPanic Q) S ((l.drop n).take (m - n)) (l.drop m) a' w.drew) ll a0 →
          headK P l.toArray S (fun a' => anyK P .any l.toArray (NoPanic Q) S (fun j => decide (m ≤ j)) (l.toArray.size - n) fin a' w.drew) ll a0 := by
        intro ll
        induction ll with
        | nil =>
          intro a0 h0
          have hlen : ((l.drop n).take (m - n) ++ l.drop m).length = l.toArray.size - n := by rw [hcat, hdl]
          show anyK P .any l.toArray (NoPanic Q) S (fun j => decide (m ≤ j)) (l.toArray.size - n) fin a0 w.drew
          rw [← hlen]
          refine anyK_mid _ n fin a0 _ (fun j => ?_) (fun j hj => ?_) (by rw [hlen]; exact hg) h0
          · rw [hcat]; simp
          · have : ((l.drop n).take (m - n)).length = m - n := by simp; omega
            simp; omega
        | cons o ll ih =>
          intro a0 h0
          obtain ⟨v, hy, hK⟩ := h0
          exact ⟨v, hy, ih _ hK⟩
      exact key _ _ h
end
end Go.Proofs.YtcamcnahkdiefaaGreat
