/- Several texts of mine in one file. -/
import Derived.Test.YtcamcnahkdiefaaGreatRows
import Derived.Test.YtcamcnahkdiefaaGreatYMNaa
import Derived.ProofKit
import Derived.OpenShut
import Derived.Deep.Slices
import Derived.Deep.Fields
import Derived.Deep.Matrix
/- Several texts of mine in one file: Open, Open2, Open3. -/
/- How a law's arguments are opened into lists, and how a law's row is closed: of any seat whose laws answer true and leave their arguments as they were. -/
namespace Go.Proofs.YtcamcnahkdiefaaGreat
set_option linter.unusedVariables false
set_option linter.unusedSimpArgs false
open Go.ChangeShapes Go.WideShapes Go.ChangeAt Go.RowKit

theorem own_ : ownKnob Tryz.prog.godebug = none := by kernel_rfl
theorem laid_ : laidOutB Tryz.prog = true := by kernel_rfl

section
variable {H : Type} {enc : TypeId × Value → H} {P : Program}

theorem all_stays (hl : laidOutB P = true) {W W' : World} {sp : Nat → Bool} (hb : Below W.heap.size W W') : ∀ (ts : List TypeId) (vs : List Value) (ds : List (DataW H)) (ps : List MemPlace),
    DataW.TrodAll enc P W 0 (fun _ => true) true ts vs ds ps → (∀ t ∈ ts, P.readableRec t = true ∧ t < P.types.size) → (∀ x ∈ ps, x.block < W.heap.size ∧ sp x.block = true) → DataW.TrodAll enc P W' 0 sp true ts vs ds ps := by
  intro ts
  induction ts with
  | nil =>
    intro vs ds ps h _ _
    obtain ⟨rfl, rfl, rfl⟩ := trodAll_nil h
    exact trodAll_mk0
  | cons t ts ih =>
    intro vs ds ps h hr hp
    obtain ⟨v, vs', d, ds', p, q, rfl, rfl, rfl, h1, h2⟩ := trodAll_cons h
    refine trodAll_cons_mk ?_ (ih vs' ds' q h2 (fun t ht => hr t (by simp [ht])) (fun x hx => hp x (by simp [hx])))
    exact WideElems.Trod_stays hl (hr t (by simp)).1 (hr t (by simp)).2 h1 (fun x hx => hb.same (hp x (by simp [hx])).1) (fun x hx => (hp x (by simp [hx])).2)

theorem law_post {f : Func} {s : ChangeSpec} {W W' : World} {args : Array Value} {ds gs : List (DataW H)} {before : List MemPlace} {tb : TypeId} (hl : laidOutB P = true)
    (hW : DataW.Whole enc P f.params.toList s.vars false W args.toList ds gs before) (hv : s.vars = []) (hf : s.fn H (ds ++ gs) = { results := [.lit (.bool true)], args := ds }) (hr : f.resultTypes = #[tb]) (ht : P.underlying tb = some .bool)
    (hp : ∀ t ∈ f.params.toList, P.readableRec t = true ∧ t < P.types.size) (hb : Below W.heap.size W W') : s.post enc P f false true false false W args (.bool true) W' := by
  have hlt : ∀ p ∈ before, p.block < W.heap.size := fun p hp => hW.lt p hp
  have hold : ∀ p ∈ before, (fun b => decide (b < W.heap.size)) p.block = true := fun p hp => by simpa using hlt p hp
  have hW2 := hW
  obtain ⟨p, q, hA, hV, rfl, hz, hn⟩ := hW
  rw [hv] at hV
  obtain ⟨rfl, rfl⟩ := trodVars_none hV
  have hA' : DataW.TrodAll enc P W' 0 (fun b => decide (b < W.heap.size)) true f.params.toList args.toList ds p := all_stays hl hb _ _ _ _ hA hp (fun x hx => ⟨hlt x (by simp [hx]), hold x (by simp [hx])⟩)
  have e1 : (Value.bool true).resultList 1 = [.bool true] := rfl
  refine ⟨ds, [], p ++ [], [], p, [], hW2, ?_, ?_, ?_, ?_, fun h => by cases h⟩
  · rw [hf, hr]
    exact trodAll_mk1 (shut_bool ht true)
  · rw [hf]
    exact hA'
  · rw [hf, hv]
    exact rfl
  · exact World.keptBut_mono (fun x hx => ⟨hx, Or.inr (by simpa using hx)⟩) (hb.frame (· ∈ p ++ []))
end

section
variable {H : Type} {enc : TypeId × Value → H} {P : Program} {w : World} {base : Nat} {held : Bool}

theorem cell_spot {w : World} {a : Addr} {v0 : Value} (h : w.cell? (a.add 0) = some v0) : a = ⟨a.block, a.off, none⟩ ∧ ∀ i, w.cell? (a.add i) = w.cell? ⟨a.block, a.off + i, none⟩ := by
  obtain ⟨b, off, sp⟩ := a
  cases sp with
  | none => exact ⟨rfl, fun i => by rw [addr_add]⟩
  | some s =>
    exfalso
    unfold Addr.add World.cell? at h
    simp at h
    split at h <;> simp_all

theorem toU (n : Int) (h : (Lit.int .u64 n).wf = true) : ((UInt64.ofNat n.toNat).toNat : Int) = n := by
  have := bounds_u64 h
  rw [UInt64.toNat_ofNat']
  omega

theorem open_words {t e : TypeId} {fuel : Nat} {cs : List Value} {x : DataW H × List MemPlace} (ht : P.underlying t = some (.slice e)) (he : P.underlying e = some (.int .u64)) (hc : P.cellsOf e = 1)
    (h : DataW.trod enc P w base (fun _ => true) held fuel t cs = some x) : ∃ (a : Option Addr) (c : Nat) (l : List UInt64), cs = [.slice a l.length c] ∧ l.length ≤ c ∧ c ≤ maxLen ∧ At w a l := by
  rcases open_ints ht he hc h with ⟨rfl, _⟩ | ⟨a, len, cap, zs, rfl, _, hl, hm, hz, _, hcell, hwz⟩
  · exact ⟨none, 0, [], rfl, Nat.le_refl _, by decide, At.nil _ _⟩
  · simp only [if_true] at hz
    have hlen : ((zs.take len).map fun z => UInt64.ofNat z.toNat).length = len := by simp; omega
    refine ⟨some a, cap, (zs.take len).map fun z => UInt64.ofNat z.toNat, by rw [hlen], by omega, hm, ?_⟩
    intro i x hx
    have hi : i < len := by
      have := (List.getElem?_eq_some_iff.1 hx).1
      omega
    have hzi : i < zs.length := by omega
    have hx' : x = UInt64.ofNat (zs[i]).toNat := by
      rw [List.getElem?_map, List.getElem?_take, if_pos hi, List.getElem?_eq_getElem hzi] at hx
      simpa using hx.symm
    obtain ⟨e1, e2⟩ := cell_spot (hcell 0 (by omega))
    refine ⟨a.block, a.off, by rw [← e1], fun f u hu => ?_⟩
    have hf : f = 0 := by
      have := (List.getElem?_eq_some_iff.1 hu).1
      simp [Flat.enc] at this
      exact this
    subst hf
    simp only [Flat.enc, List.getElem?_cons_zero, Option.some.injEq] at hu
    subst hu
    show w.cell? ⟨a.block, a.off + i * 1 + 0, none⟩ = _
    rw [Nat.mul_one, Nat.add_zero, ← e2, hcell i hzi, hx', toU _ (hwz _ (List.getElem_mem hzi))]
    simp [List.getD, hzi]

end
end Go.Proofs.YtcamcnahkdiefaaGreat

/- How arguments that are slices of structs are opened into lists. -/
namespace Go.Proofs.YtcamcnahkdiefaaGreat
set_option linter.unusedVariables false
set_option linter.unusedSimpArgs false
open Go.ChangeShapes Go.WideShapes Go.ChangeAt Go.RowKit

section
variable {H : Type} {enc : TypeId × Value → H} {P : Program} {w : World} {base : Nat} {held : Bool}

theorem fields_of {e : TypeId} {fs : Array Field} {sp : Nat → Bool} {fuel : Nat} {cs : List Value} {y : DataW H × List MemPlace} (he : P.underlying e = some (.struct fs)) (hone : Deep.oneCellFields P fs = true) (hC : P.cellsOf e = fs.size)
    (h : DataW.trod enc P w base sp held fuel e cs = some y) : cs.length = fs.size ∧ ∃ n, ∀ (i : Nat) (f : Field), fs[i]? = some f → ∃ v y', cs[i]? = some v ∧ DataW.trod enc P w base sp held n f.type [v] = some y' := by
  obtain ⟨xs, n, _, _, hlen, hxl, hf⟩ := DataW.trod_struct he h
  refine ⟨hlen.trans hC, n, fun i f hi => ?_⟩
  obtain ⟨ho, hk⟩ := Deep.hone_of hone i f hi
  have hil : i < fs.size := (Array.getElem?_eq_some_iff.1 hi).1
  have h1 := hf i f hi
  rw [ho, hk] at h1
  have hil' : i < cs.length := by omega
  have e1 : (cs.drop i).take 1 = [cs[i]] := by rw [List.drop_eq_getElem_cons hil']; rfl
  rw [e1] at h1
  exact ⟨cs[i], xs[i]'(by omega), List.getElem?_eq_getElem hil', h1.trans (List.getElem?_eq_getElem (by omega))⟩

theorem open_flat {α : Type} [Flat α] [Inhabited α] {t e : TypeId} {fuel : Nat} {cs : List Value} {x : DataW H × List MemPlace} (ht : P.underlying t = some (.slice e)) (hC : P.cellsOf e = Flat.n α) (Q : α → Prop)
    (hdec : ∀ fuel cs' y, DataW.trod enc P w base (fun _ => true) held fuel e cs' = some y → ∃ z : α, cs' = Flat.enc z ∧ Q z)
    (h : DataW.trod enc P w base (fun _ => true) held fuel t cs = some x) : ∃ (a : Option Addr) (c : Nat) (l : List α), cs = [.slice a l.length c] ∧ l.length ≤ c ∧ c ≤ maxLen ∧ At w a l ∧ ∀ z ∈ l, Q z := by
  rcases Deep.open_slice ht h with ⟨rfl, _⟩ | ⟨a, len, cap, m, n, D, Pl, rfl, _, hl, hm, hmm, _, hx⟩
  · exact ⟨none, 0, [], rfl, Nat.le_refl _, by decide, At.nil _ _, fun z hz => by simp at hz⟩
  · simp only [if_true] at hmm
    have each : ∀ r, r < len → ∃ z : α, (∀ j u, (Flat.enc z)[j]? = some u → w.cell? ((a.add (r * Flat.n α)).add j) = some u) ∧ Q z := by
      intro r hr
      obtain ⟨cs', hc, ht'⟩ := hx r (by omega)
      obtain ⟨z, rfl, hq⟩ := hdec _ _ _ ht'
      rw [hC] at hc
      obtain ⟨_, hcl, hat⟩ := World.cells?_some hc
      refine ⟨z, fun j u hu => ?_, hq⟩
      have hj : j < Flat.n α := by rw [← Flat.len z]; exact (List.getElem?_eq_some_iff.1 hu).1
      rw [hat j hj, hu]
    obtain ⟨f, hf⟩ := Deep.choose_lt each
    refine ⟨some a, cap, (List.range len).map f, by simp, by simpa using hl, hm, ?_, ?_⟩
    · intro i z hz
      have hi : i < len := by
        have := (List.getElem?_eq_some_iff.1 hz).1
        simpa using this
      rw [List.getElem?_map, List.getElem?_range hi] at hz
      simp at hz
      subst hz
      obtain ⟨u0, hu0⟩ := enc_head (f 0)
      have h0 := (hf 0 (by omega)).1 0 u0 hu0
      rw [Nat.zero_mul] at h0
      have h00 : w.cell? (a.add 0) = some u0 := by
        have e : (a.add 0).add 0 = a.add 0 := by unfold Addr.add; simp
        rw [← e]
        exact h0
      obtain ⟨e1, e2⟩ := cell_spot h00
      refine ⟨a.block, a.off, by rw [← e1], fun g u hu => ?_⟩
      have h1 := (hf i hi).1 g u hu
      rw [Deep.add_add, e2] at h1
      rw [← h1, Nat.add_assoc]
    · intro z hz
      obtain ⟨r, hr, rfl⟩ := List.mem_map.1 hz
      exact (hf r (by simpa using hr)).2
end
instance : Inhabited OpD := ⟨⟨0, 0, 0, 0, 0⟩⟩

def i64ok (n : Int) : Prop := -9223372036854775808 ≤ n ∧ n ≤ 9223372036854775807

section
variable {H : Type} {enc : TypeId × Value → H} {w : World} {base : Nat} {held : Bool}
theorem int_field {sp : Nat → Bool} {n : Nat} {v : Value} {y : DataW H × List MemPlace} (h : DataW.trod enc Tryz.prog w base sp held n 3 [v] = some y) : ∃ z : Int, v = .int .i64 z ∧ i64ok z := by
  obtain ⟨z, e, _, wf⟩ := DataW.trod_int Tryz.underlying3 h
  simp at e
  exact ⟨z, e, bounds_i64 wf⟩
theorem u64_field {sp : Nat → Bool} {n : Nat} {v : Value} {y : DataW H × List MemPlace} (h : DataW.trod enc Tryz.prog w base sp held n 50 [v] = some y) : ∃ z : UInt64, v = .int .u64 (z.toNat : Int) := by
  obtain ⟨z, e, _, wf⟩ := DataW.trod_int Tryz.underlying50 h
  simp at e
  exact ⟨UInt64.ofNat z.toNat, by rw [toU z wf]; exact e⟩
theorem dec_op (fuel : Nat) (cs : List Value) (y : DataW H × List MemPlace) (h : DataW.trod enc Tryz.prog w base (fun _ => true) held fuel 89 cs = some y) : ∃ z : OpD, cs = Flat.enc z ∧ (i64ok z.kind ∧ i64ok z.d ∧ i64ok z.a ∧ i64ok z.b) := by
  obtain ⟨hl, n, hf⟩ := fields_of Tryz.underlying89 (by kernel_rfl) (by kernel_rfl) h
  obtain ⟨v0, y0, c0, t0⟩ := hf 0 _ rfl
  obtain ⟨v1, y1, c1, t1⟩ := hf 1 _ rfl
  obtain ⟨v2, y2, c2, t2⟩ := hf 2 _ rfl
  obtain ⟨v3, y3, c3, t3⟩ := hf 3 _ rfl
  obtain ⟨v4, y4, c4, t4⟩ := hf 4 _ rfl
  obtain ⟨z0, rfl, b0⟩ := int_field t0
  obtain ⟨z1, rfl, b1⟩ := int_field t1
  obtain ⟨z2, rfl, b2⟩ := int_field t2
  obtain ⟨z3, rfl, b3⟩ := int_field t3
  obtain ⟨z4, rfl⟩ := u64_field t4
  match cs, hl with
  | [u0, u1, u2, u3, u4], _ =>
    simp at c0 c1 c2 c3 c4
    subst c0 c1 c2 c3 c4
    exact ⟨⟨z0, z1, z2, z3, z4⟩, rfl, b0, b1, b2, b3⟩
theorem open_ops {fuel : Nat} {cs : List Value} {x : DataW H × List MemPlace} (h : DataW.trod enc Tryz.prog w base (fun _ => true) held fuel 22 cs = some x) :
    ∃ (a : Option Addr) (c : Nat) (l : List OpD), cs = [.slice a l.length c] ∧ l.length ≤ c ∧ c ≤ maxLen ∧ At w a l ∧ ∀ z ∈ l, i64ok z.kind ∧ i64ok z.d ∧ i64ok z.a ∧ i64ok z.b :=
  open_flat Tryz.underlying22 (by kernel_rfl) _ dec_op h
end
end Go.Proofs.YtcamcnahkdiefaaGreat

/- How arguments that are programs are opened into lists. -/
namespace Go.Proofs.YtcamcnahkdiefaaGreat
set_option linter.unusedVariables false
set_option linter.unusedSimpArgs false
open Go.ChangeShapes Go.WideShapes Go.ChangeAt Go.RowKit
section
variable {H : Type} {enc : TypeId × Value → H} {w : World} {base : Nat} {held : Bool}
theorem open_prog {fuel : Nat} {cs : List Value} {x : DataW H × List MemPlace} (h : DataW.trod enc Tryz.prog w base (fun _ => true) held fuel 24 cs = some x) :
    ∃ (regs : Int) (a : Option Addr) (c : Nat) (l : List OpD), cs = [.int .i64 regs, .slice a l.length c] ∧ i64ok regs ∧ l.length ≤ c ∧ c ≤ maxLen ∧ At w a l ∧ ∀ z ∈ l, i64ok z.kind ∧ i64ok z.d ∧ i64ok z.a ∧ i64ok z.b := by
  obtain ⟨hl, n, hf⟩ := fields_of Tryz.underlying24 (by kernel_rfl) (by kernel_rfl) h
  obtain ⟨v0, y0, c0, t0⟩ := hf 0 _ rfl
  obtain ⟨v1, y1, c1, t1⟩ := hf 1 _ rfl
  obtain ⟨z0, rfl, b0⟩ := int_field t0
  obtain ⟨a, c, l, e, h1, h2, h3, h4⟩ := open_ops t1
  match cs, hl with
  | [u0, u1], _ =>
    simp at c0 c1 e
    subst c0 c1 e
    exact ⟨z0, a, c, l, rfl, b0, h1, h2, h3, h4⟩
end
end Go.Proofs.YtcamcnahkdiefaaGreat

/- How an argument that is a chain of the document is opened. -/
namespace Go.Proofs.YtcamcnahkdiefaaGreat
set_option linter.unusedVariables false
set_option linter.unusedSimpArgs false
open Go.ChangeShapes Go.WideShapes Go.ChangeAt Go.RowKit
section
variable {H : Type} {enc : TypeId × Value → H} {w : World} {base : Nat} {held : Bool}
theorem list6 {α : Type} {cs : List α} (h : cs.length = 6) : ∃ u0 u1 u2 u3 u4 u5, cs = [u0, u1, u2, u3, u4, u5] := by
  match cs, h with
  | [u0, u1, u2, u3, u4, u5], _ => exact ⟨u0, u1, u2, u3, u4, u5, rfl⟩
theorem list4 {α : Type} {cs : List α} (h : cs.length = 4) : ∃ u0 u1 u2 u3, cs = [u0, u1, u2, u3] := by
  match cs, h with
  | [u0, u1, u2, u3], _ => exact ⟨u0, u1, u2, u3, rfl⟩
set_option maxRecDepth 100000 in
theorem open_chain {fuel : Nat} {cs : List Value} {x : DataW H × List MemPlace} (h : DataW.trod enc Tryz.prog w base (fun _ => true) held fuel 48 cs = some x) :
    ∃ (r1 r2 z : Int) (a b ta : Option Addr) (c d tc : Nat) (l m : List OpD) (th : List UInt64), cs = [.int .i64 r1, .slice a l.length c, .int .i64 r2, .slice b m.length d, .int .i64 z, .slice ta th.length tc] ∧ i64ok r1 ∧ i64ok r2 ∧ i64ok z ∧ At w a l ∧ At w b m ∧ At w ta th := by
  obtain ⟨xs, n, _, _, hlen, hxl, hf⟩ := DataW.trod_struct Tryz.underlying48 h
  have hl6 : cs.length = 6 := hlen.trans (by kernel_rfl)
  have hx4 : xs.length = 4 := hxl
  obtain ⟨u0, u1, u2, u3, u4, u5, rfl⟩ : ∃ u0 u1 u2 u3 u4 u5, cs = [u0, u1, u2, u3, u4, u5] := by
    clear h hf hlen hxl hx4
    exact list6 hl6
  obtain ⟨y0, y1, y2, y3, rfl⟩ : ∃ y0 y1 y2 y3, xs = [y0, y1, y2, y3] := by
    exact list4 hx4
  have t0 : DataW.trod enc Tryz.prog w base (fun _ => true) held n 24 [u0, u1] = some y0 := hf 0 _ rfl
  have t1 : DataW.trod enc Tryz.prog w base (fun _ => true) held n 24 [u2, u3] = some y1 := hf 1 _ rfl
  have t2 : DataW.trod enc Tryz.prog w base (fun _ => true) held n 3 [u4] = some y2 := hf 2 _ rfl
  have t3 : DataW.trod enc Tryz.prog w base (fun _ => true) held n 46 [u5] = some y3 := hf 3 _ rfl
  obtain ⟨r1, a, c, l, e1, g1, _, _, k1, _⟩ := open_prog t0
  obtain ⟨r2, b, d, m, e2, g2, _, _, k2, _⟩ := open_prog t1
  obtain ⟨z, rfl, g3⟩ := int_field t2
  obtain ⟨ta, tc, th, e3, _, _, k3⟩ := open_words Tryz.underlying46 Tryz.underlying50 (by kernel_rfl) t3
  simp at e1 e2 e3
  obtain ⟨rfl, rfl⟩ := e1
  obtain ⟨rfl, rfl⟩ := e2
  subst e3
  exact ⟨r1, r2, z, a, b, ta, c, d, tc, l, m, th, rfl, g1, g2, g3, k1, k2, k3⟩
end
end Go.Proofs.YtcamcnahkdiefaaGreat
