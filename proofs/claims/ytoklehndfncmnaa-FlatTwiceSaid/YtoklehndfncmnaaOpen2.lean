/- How arguments that are slices of structs are opened into lists. -/
import Derived.Test.YtoklehndfncmnaaOpen
namespace Go.Proofs.Ytoklehndfncmnaa
set_option linter.unusedVariables false
set_option linter.unusedSimpArgs false
open Go.ChangeShapes Go.WideShapes Go.ChangeAt Go.RowKit

section
variable {H : Type} {enc : TypeId × Value → H} {P : Program} {w : World} {base : Nat} {held : Bool}

/-- A struct's fields, each of one cell. -/
theorem fields_of {e : TypeId} {fs : Array Field} {sp : Nat → Bool} {fuel : Nat} {cs : List Value} {y : DataW H × List MemPlace} (he : P.underlying e = some (.struct fs)) (hone : Deep.oneCellFields P fs = true) (hC : P.cellsOf e = fs.size)
    (h : DataW.trod enc P w base sp held fuel e cs = some y) : cs.length = fs.size ∧ ∃ n, ∀ (i : Nat) (f : Field), fs[i]? = some f → ∃ v y', cs[i]? = some v ∧ DataW.trod enc P w base sp held n f.type [v] = some y' := by
  obtain ⟨xs, n, _, _, hlen, hxl, hf⟩ := DataW.trod_struct he h
  refine ⟨hlen.trans hC, n, fun i f hi => ?_⟩
  obtain ⟨ho, hk⟩ := Deep.hone_of hone i f hi
  have hil : i < fs.size := (Array.getElem?_eq_some_iff.1 hi).1
  have h1 := hf i f hi
  rw [ho, hk] at h1
  have hil' : i < cs.length := by omega
  have e1 : (cs.drop i).take 1 = [cs[i]] := by rw [List.drop_eq_getElem_cons hil']; rfl
  rw [e1] at h1
  exact ⟨cs[i], xs[i]'(by omega), List.getElem?_eq_getElem hil', h1.trans (List.getElem?_eq_getElem (by omega))⟩

/-- A slice of flat data that came in, as a list. -/
theorem open_flat {α : Type} [Flat α] [Inhabited α] {t e : TypeId} {fuel : Nat} {cs : List Value} {x : DataW H × List MemPlace} (ht : P.underlying t = some (.slice e)) (hC : P.cellsOf e = Flat.n α) (Q : α → Prop)
    (hdec : ∀ fuel cs' y, DataW.trod enc P w base (fun _ => true) held fuel e cs' = some y → ∃ z : α, cs' = Flat.enc z ∧ Q z)
    (h : DataW.trod enc P w base (fun _ => true) held fuel t cs = some x) : ∃ (a : Option Addr) (c : Nat) (l : List α), cs = [.slice a l.length c] ∧ l.length ≤ c ∧ c ≤ maxLen ∧ At w a l ∧ ∀ z ∈ l, Q z := by
  rcases Deep.open_slice ht h with ⟨rfl, _⟩ | ⟨a, len, cap, m, n, D, Pl, rfl, _, hl, hm, hmm, _, hx⟩
  · exact ⟨none, 0, [], rfl, Nat.le_refl _, by decide, At.nil _ _, fun z hz => by simp at hz⟩
  · simp only [if_true] at hmm
    have each : ∀ r, r < len → ∃ z : α, (∀ j u, (Flat.enc z)[j]? = some u → w.cell? ((a.add (r * Flat.n α)).add j) = some u) ∧ Q z := by
      intro r hr
      obtain ⟨cs', hc, ht'⟩ := hx r (by omega)
      obtain ⟨z, rfl, hq⟩ := hdec _ _ _ ht'
      rw [hC] at hc
      obtain ⟨_, hcl, hat⟩ := World.cells?_some hc
      refine ⟨z, fun j u hu => ?_, hq⟩
      have hj : j < Flat.n α := by rw [← Flat.len z]; exact (List.getElem?_eq_some_iff.1 hu).1
      rw [hat j hj, hu]
    obtain ⟨f, hf⟩ := Deep.choose_lt each
    refine ⟨some a, cap, (List.range len).map f, by simp, by simpa using hl, hm, ?_, ?_⟩
    · intro i z hz
      have hi : i < len := by
        have := (List.getElem?_eq_some_iff.1 hz).1
        simpa using this
      rw [List.getElem?_map, List.getElem?_range hi] at hz
      simp at hz
      subst hz
      obtain ⟨u0, hu0⟩ := enc_head (f 0)
      have h0 := (hf 0 (by omega)).1 0 u0 hu0
      rw [Nat.zero_mul] at h0
      have h00 : w.cell? (a.add 0) = some u0 := by
        have e : (a.add 0).add 0 = a.add 0 := by unfold Addr.add; simp
        rw [← e]
        exact h0
      obtain ⟨e1, e2⟩ := cell_spot h00
      refine ⟨a.block, a.off, by rw [← e1], fun g u hu => ?_⟩
      have h1 := (hf i hi).1 g u hu
      rw [Deep.add_add, e2] at h1
      rw [← h1, Nat.add_assoc]
    · intro z hz
      obtain ⟨r, hr, rfl⟩ := List.mem_map.1 hz
      exact (hf r (by simpa using hr)).2
end
instance : Inhabited OpD := ⟨⟨0, 0, 0, 0, 0⟩⟩

def i64ok (n : Int) : Prop := -9223372036854775808 ≤ n ∧ n ≤ 9223372036854775807

section
variable {H : Type} {enc : TypeId × Value → H} {w : World} {base : Nat} {held : Bool}
theorem int_field {sp : Nat → Bool} {n : Nat} {v : Value} {y : DataW H × List MemPlace} (h : DataW.trod enc Try.prog w base sp held n 3 [v] = some y) : ∃ z : Int, v = .int .i64 z ∧ i64ok z := by
  obtain ⟨z, e, _, wf⟩ := DataW.trod_int Try.underlying3 h
  simp at e
  exact ⟨z, e, bounds_i64 wf⟩
theorem u64_field {sp : Nat → Bool} {n : Nat} {v : Value} {y : DataW H × List MemPlace} (h : DataW.trod enc Try.prog w base sp held n 32 [v] = some y) : ∃ z : UInt64, v = .int .u64 (z.toNat : Int) := by
  obtain ⟨z, e, _, wf⟩ := DataW.trod_int Try.underlying32 h
  simp at e
  exact ⟨UInt64.ofNat z.toNat, by rw [toU z wf]; exact e⟩
theorem dec_op (fuel : Nat) (cs : List Value) (y : DataW H × List MemPlace) (h : DataW.trod enc Try.prog w base (fun _ => true) held fuel 34 cs = some y) : ∃ z : OpD, cs = Flat.enc z ∧ (i64ok z.kind ∧ i64ok z.d ∧ i64ok z.a ∧ i64ok z.b) := by
  obtain ⟨hl, n, hf⟩ := fields_of Try.underlying34 (by kernel_rfl) (by kernel_rfl) h
  obtain ⟨v0, y0, c0, t0⟩ := hf 0 _ rfl
  obtain ⟨v1, y1, c1, t1⟩ := hf 1 _ rfl
  obtain ⟨v2, y2, c2, t2⟩ := hf 2 _ rfl
  obtain ⟨v3, y3, c3, t3⟩ := hf 3 _ rfl
  obtain ⟨v4, y4, c4, t4⟩ := hf 4 _ rfl
  obtain ⟨z0, rfl, b0⟩ := int_field t0
  obtain ⟨z1, rfl, b1⟩ := int_field t1
  obtain ⟨z2, rfl, b2⟩ := int_field t2
  obtain ⟨z3, rfl, b3⟩ := int_field t3
  obtain ⟨z4, rfl⟩ := u64_field t4
  match cs, hl with
  | [u0, u1, u2, u3, u4], _ =>
    simp at c0 c1 c2 c3 c4
    subst c0 c1 c2 c3 c4
    exact ⟨⟨z0, z1, z2, z3, z4⟩, rfl, b0, b1, b2, b3⟩
theorem open_ops {fuel : Nat} {cs : List Value} {x : DataW H × List MemPlace} (h : DataW.trod enc Try.prog w base (fun _ => true) held fuel 22 cs = some x) :
    ∃ (a : Option Addr) (c : Nat) (l : List OpD), cs = [.slice a l.length c] ∧ l.length ≤ c ∧ c ≤ maxLen ∧ At w a l ∧ ∀ z ∈ l, i64ok z.kind ∧ i64ok z.d ∧ i64ok z.a ∧ i64ok z.b :=
  open_flat Try.underlying22 (by kernel_rfl) _ dec_op h
end
end Go.Proofs.Ytoklehndfncmnaa
