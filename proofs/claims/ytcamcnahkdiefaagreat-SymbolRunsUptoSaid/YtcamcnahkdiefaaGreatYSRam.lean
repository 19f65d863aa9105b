/- Several texts of mine in one file. -/
import Derived.Lib.AppendZeros
import Derived.Test.YtcamcnahkdiefaaGreatYSRaa
import Derived.Test.YtcamcnahkdiefaaGreatYSRac
import Derived.Test.YtcamcnahkdiefaaGreatYSRaj
import Derived.Test.YtcamcnahkdiefaaGreatYSRal
import Derived.IntWalk
import Derived.ScopeJumps
import Derived.Scope
import Derived.WalkMore
import Derived.Deep.AppendLies
import Derived.Deep.RegionHeld3
import Derived.Test.YtcamcnahkdiefaaGreatYSRad
import Derived.Laws.CopyOwn
import Derived.Deep.DeepMust
import Derived.StillTailTactics
import Derived.RegionTactic
import Derived.BigRegion
import Derived.Deep.OwnRows
import Derived.Laws.ResultCell
import Derived.Laws.Rows
import Derived.Test.YtcamcnahkdiefaaGreatYSRak
import Derived.Test.YtcamcnahkdiefaaGreatYSRae
/- append of so many noughts: append(s, make([]T, n)...), onto a slice of the call's own. -/
namespace Go.Proofs.YtcamcnahkdiefaaGreat
set_option linter.unusedVariables false
set_option linter.unusedSimpArgs false
open Go.RowKit
section
variable {P : Program} (w : World)
theorem run_append_room_z (t tn ty e : TypeId) (i : TypeInfo) (z : Value) (k kn : IntKind) (ht : P.underlying t = some (.slice e)) (htn : P.underlying tn = some (.int kn)) (hi : P.info? e = some i) (hz : i.zero = some z)
    (g sLen sCap : Nat) (cur : Array Value) (hg : w.heap[g]? = some (.cells cur e (0, 0))) (m : Nat) (hs : 0 < i.size) (hl : (Builtin.zeroCells z.cells m).size = m * i.size) (h1 : ∀ u ∈ (Builtin.zeroCells z.cells m).toList, u.oneCell' = true)
    (hroom : sLen + m ≤ sCap) (hfit : sLen * i.size + m * i.size ≤ cur.size) (h63 : (m : Int) ≤ 9223372036854775807) (h48 : m * i.bytes ≤ 281474976710656) :
    (Builtin.append_ #[t, tn] ty #[.slice (some ⟨g, 0, none⟩) sLen sCap, .int k m]).run P w =
      .ok (.slice (some ⟨g, 0, none⟩) (sLen + m) sCap) (w.setRow g (cur.toList.take (sLen * i.size) ++ (Builtin.zeroCells z.cells m).toList ++ cur.toList.drop (sLen * i.size + m * i.size)).toArray) := by
  have hst := run_storeCells_at P g (sLen * i.size) e (Builtin.zeroCells z.cells m).toList 0 cur w hg (by rw [Array.length_toList, hl]; simpa using hfit) h1
  simp only [Nat.add_zero, Array.length_toList, hl] at hst
  have hw : IntKind.i64.wrap (m : Int) = m := by rw [IntKind.wrap_i64]; omega
  have hneg : ¬ ((m : Int) < 0) := by omega
  have h48i : ¬ (281474976710656 < (m : Int) * (i.bytes : Int)) := by
    rw [← Int.natCast_mul]
    omega
  by_cases hm : m = 0
  · subst hm
    have h0 : Builtin.zeroCells z.cells 0 = #[] := by simp [Builtin.zeroCells]
    rw [h0] at hst ⊢
    have hw0 : IntKind.i64.wrap 0 = 0 := by rw [IntKind.wrap_i64]; rfl
    have hr0 : sLen ≤ sCap := by omega
    simp [Builtin.append_, run_underlying ht, run_underlying htn, sizeOf, typeInfo, hi, asInt, asIntOf, hw0, hr0, Addr.add_lit]
    have hst2 : (storeCells ⟨g, sLen * i.size, none⟩ []).run P w = .ok () (w.setRow g cur) := by simpa using hst
    rw [hst2]
    rfl
  · have hns : ¬ (m * i.size = 0) := Nat.mul_ne_zero hm (by omega)
    simp [Builtin.append_, run_underlying ht, run_underlying htn, sizeOf, typeInfo, zeroValue, hi, hz, asInt, asIntOf, hw, hneg, h48i, hns, hm, hroom, Addr.add_lit, hst]
theorem run_append_grow_z (t tn ty e : TypeId) (i : TypeInfo) (z : Value) (k kn : IntKind) (ht : P.underlying t = some (.slice e)) (htn : P.underlying tn = some (.int kn)) (hi : P.info? e = some i) (hz : i.zero = some z)
    (b : Addr) (sLen sCap : Nat) (olds : List Value) (hlo : olds.length = sLen * i.size) (holds : ∀ j v, olds[j]? = some v → w.cell? (b.add j) = some v) (n : Nat) (hs : 0 < i.size)
    (hg : sCap < sLen + n) (hsc : sLen ≤ sCap) (h63 : ((sLen + n : Nat) : Int) ≤ 9223372036854775807) (h48 : n * i.bytes ≤ 281474976710656) (hfit : Builtin.nextslicecap (sLen + n) sCap * i.bytes ≤ 281474976710656) :
    (Builtin.append_ #[t, tn] ty #[.slice (some b) sLen sCap, .int k n]).run P w =
      .ok (.slice (some ⟨w.heap.size, 0, none⟩) (sLen + n) (grownCap w (sLen + n) sCap e))
        (w.drew.alloc (.cells (olds.toArray ++ Builtin.zeroCells z.cells n ++ Builtin.zeroCells z.cells (grownCap w (sLen + n) sCap e - (sLen + n))) e)) := by
  have hn : ¬ (sLen + n ≤ sCap) := by omega
  have h63' : ¬ (9223372036854775807 < ((sLen : Int) + (n : Int))) := by omega
  have h48' : ¬ (281474976710656 < Builtin.nextslicecap (sLen + n) sCap * i.bytes) := by omega
  have hw : IntKind.i64.wrap (n : Int) = n := by rw [IntKind.wrap_i64]; omega
  have hneg : ¬ ((n : Int) < 0) := by omega
  have h48i : ¬ (281474976710656 < (n : Int) * (i.bytes : Int)) := by
    rw [← Int.natCast_mul]
    omega
  have hm : n ≠ 0 := by omega
  have hns : ¬ (n * i.size = 0) := Nat.mul_ne_zero hm (by omega)
  have hfo := run_firstCells_some (P := P) w.drew i.size sLen b sLen sCap olds hlo (by simpa using holds)
  simp [Builtin.append_, run_underlying ht, run_underlying htn, sizeOf, typeInfo, zeroValue, hi, hz, asInt, asIntOf, hw, hneg, h48i, hm, hns, hn, h63', h48', Question.forced, hfo, newRow, grownCap]
  try (congr 2; apply Array.ext'; simp [List.append_assoc])
end
section
variable {P : Program} {α : Type} [Flat α]
theorem zeroCells_flat {z : Value} {z0 : α} (h : z.cells.toList = Flat.enc z0) (n : Nat) : (Builtin.zeroCells z.cells n).toList = (List.replicate n z0).flatMap Flat.enc := by
  have hs : z.cells.size = Flat.n α := by rw [← Array.length_toList, h, Flat.len]
  apply List.ext_getElem?
  intro j
  have hp : 0 < Flat.n α := Flat.pos
  have hsz : (Builtin.zeroCells z.cells n).size = n * Flat.n α := by rw [size_zeroCells, hs]
  by_cases hj : j < n * Flat.n α
  · have hd : j / Flat.n α < n := (Nat.div_lt_iff_lt_mul hp).2 hj
    have hf : j % Flat.n α < Flat.n α := Nat.mod_lt _ hp
    have hg : (Flat.enc z0)[j % Flat.n α]? = some ((Flat.enc z0)[j % Flat.n α]'(by rw [Flat.len]; exact hf)) := List.getElem?_eq_getElem _
    have h2 := enc_flat (List.replicate n z0) (j / Flat.n α) z0 (by rw [List.getElem?_replicate, if_pos hd]) (j % Flat.n α) _ hg
    rw [show j / Flat.n α * Flat.n α + j % Flat.n α = j by rw [Nat.mul_comm]; exact Nat.div_add_mod j _] at h2
    rw [h2, Array.getElem?_toList, Array.getElem?_eq_getElem (by omega)]
    congr 1
    simp only [Builtin.zeroCells, Array.getElem_map, Array.getElem_range, hs]
    rw [getElem!_pos _ _ (by rw [hs]; exact hf)]
    have : z.cells[j % Flat.n α]'(by rw [hs]; exact hf) = z.cells.toList[j % Flat.n α]'(by rw [Array.length_toList, hs]; exact hf) := by simp
    rw [this]
    congr 1
  · rw [List.getElem?_eq_none (by rw [Array.length_toList]; omega), List.getElem?_eq_none (by rw [enc_length, List.length_replicate]; omega)]
/-- A slice type, its elements' row, its elements' nought. -/
structure TyN (P : Program) (T E : TypeId) (z0 : α) : Prop where
  und : P.underlying T = some (.slice E)
  info : ∃ i z, P.info? E = some i ∧ i.zero = some z ∧ i.size = Flat.n α ∧ i.bytes ≤ 128 ∧ z.cells.toList = Flat.enc z0
theorem run_append_zeros {w : World} {T E Tn : TypeId} {z0 : α} (ty : TyN P T E z0) {kn : IntKind} (htn : P.underlying Tn = some (.int kn)) {B : Nat} {a : Option Addr} {c : Nat} {l : List α} (own : Own w B E a c l) (m : Nat) (k : IntKind) (t0 : TypeId)
    (hB : B ≤ w.heap.size) (hl : l.length ≤ 1000000000) (hm : m ≤ 1000000000) :
    ∃ a' c' w', (Builtin.append_ #[T, Tn] t0 #[.slice a l.length c, .int k m]).run P w = .ok (.slice a' (l.length + m) c') w' ∧ Own w' B E a' c' (l ++ List.replicate m z0) ∧ w.grownBy w' (a.map (·.block)) ∧
      (a'.map (·.block) = a.map (·.block) ∨ ∃ g, a'.map (·.block) = some g ∧ w.heap.size ≤ g) := by
  obtain ⟨i, z, hi, hz, hsz, hby, hzc⟩ := ty.info
  have hzs : z.cells.size = Flat.n α := by rw [← Array.length_toList, hzc, Flat.len]
  have hp : 0 < i.size := by rw [hsz]; exact Flat.pos
  have hmb : m * i.bytes ≤ 281474976710656 := Nat.le_trans (Nat.mul_le_mul hm hby) (by decide)
  have hlen : (l.flatMap Flat.enc).length = l.length * i.size := by rw [enc_length, hsz]
  have hzl : (Builtin.zeroCells z.cells m).size = m * i.size := by rw [size_zeroCells, hzs, hsz]
  have hLL : (l.flatMap Flat.enc ++ (Builtin.zeroCells z.cells m).toList).length = (l.length + m) * Flat.n α := by
    have hz2 : (Builtin.zeroCells z.cells m).toList.length = m * i.size := by rw [Array.length_toList]; exact hzl
    rw [List.length_append, hlen, hz2, hsz, Nat.add_mul]
  have hnf : (l ++ List.replicate m z0).flatMap Flat.enc = l.flatMap Flat.enc ++ (Builtin.zeroCells z.cells m).toList := by rw [List.flatMap_append, zeroCells_flat hzc]
  have h1 : ∀ u ∈ (Builtin.zeroCells z.cells m).toList, u.oneCell' = true := by rw [zeroCells_flat hzc]; exact enc_one _
  have grown : ∀ (old : Nat), old < l.length + m → ∀ (row : Option Nat),
      Own (w.drew.alloc (.cells ((l.flatMap Flat.enc).toArray ++ Builtin.zeroCells z.cells m ++ Builtin.zeroCells z.cells (grownCap w (l.length + m) old E - (l.length + m))) E)) B E (some ⟨w.heap.size, 0, none⟩) (grownCap w (l.length + m) old E) (l ++ List.replicate m z0) ∧
      w.grownBy (w.drew.alloc (.cells ((l.flatMap Flat.enc).toArray ++ Builtin.zeroCells z.cells m ++ Builtin.zeroCells z.cells (grownCap w (l.length + m) old E - (l.length + m))) E)) row := by
    intro old ho row
    have hge := grownCap_ge w (l.length + m) old E
    have hcm : grownCap w (l.length + m) old E ≤ maxLen := grownCap_le_maxLen w (l.length + m) old E (by simp only [maxLen]; omega)
    refine ⟨?_, ⟨rfl, rfl, rfl, by simp, fun k hk _ => Below.heap_alloc w.drew _ k hk⟩⟩
    unfold Own
    rw [hnf, List.length_append, List.length_replicate]
    refine ⟨hLL, .inr ⟨w.heap.size, _, _, rfl, hB, heap_alloc_new w.drew _, hge, hcm, ?_, ?_⟩⟩
    · simp only [Array.size_append, List.size_toArray, size_zeroCells, hzs, hlen, hsz, ← Nat.add_mul]
      congr 1
      omega
    · simp only [Array.toList_append, List.append_assoc]
      rw [← List.append_assoc]
      rw [← hLL]
      exact List.take_left
  rcases own.2 with ⟨hv, h0⟩ | ⟨g, cap, cur, hv, hbg, hg, hnc, hcm, hcs, htake⟩
  · injection hv with e1 e2 e3
    subst e1 e3
    have hx : l = [] := List.eq_nil_of_length_eq_zero h0
    subst hx
    rcases Nat.eq_zero_or_pos m with rfl | hm0
    · refine ⟨none, 0, w, ?_, by simpa using Own.none w B E, World.grownBy.refl w _, .inl rfl⟩
      have hw0 : IntKind.i64.wrap 0 = 0 := by rw [IntKind.wrap_i64]; rfl
      simp [Builtin.append_, run_underlying ty.und, run_underlying htn, sizeOf, typeInfo, hi, asInt, asIntOf, hw0, Builtin.firstCells]
    · have hr := Lib.run_append_nil_zeros w T Tn t0 E i z k kn ty.und htn hi hz m hm0 hp (by omega) hmb
      have hgr := grown 0 (by simp; omega) none
      simp only [List.length_nil, Nat.zero_add, List.nil_append, List.flatMap_nil, Array.empty_append] at hgr ⊢
      exact ⟨_, _, _, hr, hgr.1, hgr.2, .inr ⟨_, rfl, Nat.le_refl _⟩⟩
  · injection hv with e1 e2 e3
    subst e1 e3
    by_cases hroom : l.length + m ≤ c
    · have hfit : l.length * i.size + m * i.size ≤ cur.size := by rw [hcs, ← Nat.add_mul, hsz]; exact Nat.mul_le_mul_right _ hroom
      have hr := run_append_room_z w T Tn t0 E i z k kn ty.und htn hi hz g l.length c cur hg m hp hzl h1 hroom hfit (by omega) hmb
      refine ⟨_, _, _, hr, ?_, ⟨rfl, rfl, rfl, by simp [World.setRow], fun k _ hk => setRow_other w g k _ (fun e => hk (by simp [e]))⟩, .inl rfl⟩
      unfold Own
      rw [hnf, List.length_append, List.length_replicate]
      refine ⟨hLL, .inr ⟨g, c, _, rfl, hbg, setRow_heap w g cur _ E _ hg, hroom, hcm, ?_, ?_⟩⟩
      · simp only [List.size_toArray, List.length_append, List.length_take, List.length_drop, Array.length_toList, hzl]
        rw [← hcs]; omega
      · rw [hsz, htake]
        rw [← hLL]
        exact List.take_left
    · have holds : ∀ j u, (l.flatMap Flat.enc)[j]? = some u → w.cell? ((⟨g, 0, none⟩ : Addr).add j) = some u := World.ownsRow.cells own (g := g) rfl
      have hr := run_append_grow_z w T Tn t0 E i z k kn ty.und htn hi hz ⟨g, 0, none⟩ l.length c _ hlen holds m hp (by omega) hnc (by omega) hmb (growslice_fits (by omega) (Nat.le_trans (Nat.mul_le_mul (show l.length + m ≤ 2000000000 by omega) hby) (by decide)))
      have hgr := grown c (by omega) (some g)
      exact ⟨_, _, _, hr, hgr.1, hgr.2, .inr ⟨_, rfl, Nat.le_refl _⟩⟩
theorem TyN.of {T E : TypeId} {z0 : α} {z : Value} {size bytes : Nat} (h0 : P.underlying T = some (.slice E)) (h : (P.info? E).map (fun i => (i.zero, i.size, i.bytes)) = some (some z, size, bytes))
    (h1 : size = Flat.n α) (h2 : bytes ≤ 128) (h3 : z.cells.toList = Flat.enc z0) : TyN P T E z0 := by
  obtain ⟨i, hi, hz0, hz1, hz2⟩ := info_parts h
  exact ⟨h0, i, z, hi, hz0, hz1.trans h1, by omega, h3⟩
end
end Go.Proofs.YtcamcnahkdiefaaGreat

/- Plain facts on the machine that goes back through code; tapes; adjoints. No program is named here. -/
namespace Go.Proofs.YtcamcnahkdiefaaGreat
set_option linter.unusedVariables false
set_option linter.unusedSimpArgs false
open Go.RowKit

/-- a code's value at a place -/
def vC (c : List (OpD × Int)) (i : Int) : UInt64 := (c[i.toNat]?.map (·.1.v)).getD 0
/-- a step back -/
def Tk.back (c : List (OpD × Int)) (x : Tk) : Int × List UInt64 :=
  if x.op.kind = 0 then ((x.at' : Int) - 1, x.st ++ [vC c (x.to - 1)])
  else if x.op.kind = 7 then (if 1 < (x.st.getLast?.getD 0).toNat then (x.to - 2, x.st.dropLast ++ [x.st.getLast?.getD 0 - 1]) else ((x.at' : Int) - 1, x.st.dropLast))
  else ((x.at' : Int) - 1, x.st)
def ChnB (c : List (OpD × Int)) : Int × List UInt64 → List Tk → Int × List UInt64 → Prop
  | s, [], e => s = e
  | s, x :: r, e => s = ((x.at' : Int), x.st) ∧ c[x.at']? = some (x.op, x.to) ∧ ChnB c (x.back c) r e
theorem ChnB.append {c : List (OpD × Int)} {s m e : Int × List UInt64} {a b : List Tk} (h1 : ChnB c s a m) (h2 : ChnB c m b e) : ChnB c s (a ++ b) e := by
  induction a generalizing s with
  | nil => obtain rfl : s = m := h1; exact h2
  | cons x r ih => exact ⟨h1.1, h1.2.1, ih h1.2.2⟩
/-- What each step back is like. -/
def TkB (n D : Nat) (ops : List OpD) (x : Tk) : Prop := x.at' < n ∧ x.st.length ≤ D ∧ (x.op.kind = 0 → x.st.length < D ∧ 1 ≤ x.to ∧ x.to ≤ (n : Int)) ∧ (x.op.kind = 7 → x.st ≠ [] ∧ 2 ≤ x.to ∧ x.to ≤ (n : Int)) ∧ x.op ∈ ops ∧ 0 ≤ x.op.kind ∧ x.op.kind ≤ 7
theorem TkB.mono {n m D : Nat} {a b : List OpD} {x : Tk} (h : TkB n D a x) (hn : n ≤ m) (hs : ∀ y ∈ a, y ∈ b) : TkB m D b x :=
  ⟨by have := h.1; omega, h.2.1, fun hk => by have := h.2.2.1 hk; omega, fun hk => ⟨(h.2.2.2.1 hk).1, by have := h.2.2.2.1 hk; omega⟩, hs _ h.2.2.2.2.1, h.2.2.2.2.2⟩
end Go.Proofs.YtcamcnahkdiefaaGreat

/- Plain facts on derivatives: tangents, adjoints, and that they are each other's transposed. No program is named here. -/
namespace Go.Proofs.YtcamcnahkdiefaaGreat
set_option linter.unusedVariables false
set_option linter.unusedSimpArgs false
open Go.RowKit

/-- A tangent's step. -/
def tanU (x : OpD) (r t : List UInt64) : UInt64 := (partU x (getR r x.a) (getR r x.b)).1 * getR t x.a + (partU x (getR r x.a) (getR r x.b)).2 * getR t x.b
def stepT (x : OpD) (r t : List UInt64) : List UInt64 := t.set x.d.toNat (tanU x r t)
def runT : List OpD → List UInt64 → List UInt64 → List UInt64
  | [], _, t => t
  | x :: l, r, t => runT l (stepR r x) (stepT x r t)
theorem stepT_length (x : OpD) (r t : List UInt64) : (stepT x r t).length = t.length := by simp [stepT]
theorem runT_length (l : List OpD) (r t : List UInt64) : (runT l r t).length = t.length := by
  induction l generalizing r t with
  | nil => rfl
  | cons x l ih => show (runT l _ _).length = _; rw [ih, stepT_length]
/-! ### The product of two rows -/
/-- the row that is 1 at one place -/
def unitR (n i : Nat) : List UInt64 := (List.replicate n 0).set i 1
/-! ### Linearity -/
/-! ### Tapes -/
/-- what a run overwrites -/
def tapeR : List OpD → List UInt64 → List UInt64
  | [], _ => []
  | x :: l, r => getR r x.d :: tapeR l (stepR r x)
end Go.Proofs.YtcamcnahkdiefaaGreat

/- Several texts of mine in one file: E13, E13b, E13c, E13d. -/
/- Chapter 13: the machine that runs. -/
namespace Go.Proofs.YtcamcnahkdiefaaGreat
set_option linter.unusedVariables false
set_option linter.unusedSimpArgs false
open Go.RowKit

def uptoL (U : List OpD) (m : Int) : List OpD := if m < 0 then U else U.take m.toNat
/-- the counts of the open blocks, in an array of 8 -/
def LeftAt (w : World) (b : Nat) (st : List UInt64) : Prop := ∃ cs : Array Value, Blk w b 190 cs ∧ cs.size = 8 ∧ ∀ (i : Nat) (v : UInt64), st[i]? = some v → cs[i]? = some (.int .u64 (v.toNat : Int))
theorem LeftAt.room {w : World} {b : Nat} {st : List UInt64} (h : LeftAt w b st) {i : Nat} (hi : i < 8) : ∃ v, w.cell? ⟨b, i, none⟩ = some v ∧ w.frozen? ⟨b, i, none⟩ = false := by
  obtain ⟨cs, h1, h2, h3⟩ := h
  exact ⟨cs[i]'(by omega), h1.cell_ (Array.getElem?_eq_getElem _), h1.frozen i⟩
theorem LeftAt.cell {w : World} {b : Nat} {st : List UInt64} (h : LeftAt w b st) {i : Nat} {v : UInt64} (hv : st[i]? = some v) : w.cell? ⟨b, i, none⟩ = some (.int .u64 (v.toNat : Int)) := by
  obtain ⟨cs, h1, h2, h3⟩ := h
  exact h1.cell_ (h3 i v hv)
theorem LeftAt.push {w : World} {b : Nat} {st : List UInt64} (h : LeftAt w b st) (hs : st.length < 8) (v : UInt64) : LeftAt (w.setCell ⟨b, st.length, none⟩ (.int .u64 (v.toNat : Int))) b (st ++ [v]) := by
  obtain ⟨cs, h1, h2, h3⟩ := h
  refine ⟨_, h1.set_ st.length _, by simp [h2], fun i u hu => ?_⟩
  rw [Array.getElem?_setIfInBounds]
  by_cases hi : st.length = i
  · subst hi
    simp at hu
    subst hu
    rw [if_pos rfl, if_pos (by omega)]
  · rw [if_neg hi]
    refine h3 i u ?_
    rw [List.getElem?_append] at hu
    split at hu
    · exact hu
    · have := (List.getElem?_eq_some_iff.1 hu).1; simp at this; omega
theorem LeftAt.turn {w : World} {b : Nat} {st : List UInt64} {v : UInt64} (h : LeftAt w b (st ++ [v])) (hs : st.length < 8) (u : UInt64) : LeftAt (w.setCell ⟨b, st.length, none⟩ (.int .u64 (u.toNat : Int))) b (st ++ [u]) := by
  obtain ⟨cs, h1, h2, h3⟩ := h
  have h' : LeftAt w b st := ⟨cs, h1, h2, fun i x hx => h3 i x (by rw [List.getElem?_append_left (List.getElem?_eq_some_iff.1 hx).1]; exact hx)⟩
  exact h'.push hs u
theorem LeftAt.pop {w : World} {b : Nat} {st : List UInt64} {v : UInt64} (h : LeftAt w b (st ++ [v])) : LeftAt w b st := by
  obtain ⟨cs, h1, h2, h3⟩ := h
  exact ⟨cs, h1, h2, fun i x hx => h3 i x (by rw [List.getElem?_append_left (List.getElem?_eq_some_iff.1 hx).1]; exact hx)⟩
theorem LeftAt.turned {F : List Nat} {w w' : World} {b : Nat} {st : List UInt64} (h : LeftAt w b st) (hT : Turned F w w') (hb : b ∉ F) : LeftAt w' b st := by
  obtain ⟨cs, h1, h2, h3⟩ := h
  exact ⟨cs, (hT.block b h1.lt hb).trans h1, h2, h3⟩
theorem LeftAt.far {w : World} {b : Nat} {st : List UInt64} (h : LeftAt w b st) {p : Addr} (hp : b ≠ p.block) (u : Value) : LeftAt (w.setCell p u) b st := by
  obtain ⟨cs, h1, h2, h3⟩ := h
  exact ⟨cs, h1.far hp u, h2, h3⟩
theorem LeftAt.lt {w : World} {b : Nat} {st : List UInt64} (h : LeftAt w b st) : b < w.heap.size := by
  obtain ⟨cs, h1, h2, h3⟩ := h
  exact h1.lt
theorem Good.tk_in {regs : Int} {f : Fo} (g : Good regs f) : ∀ x ∈ f.steps, 1 ≤ x.op.kind → x.op.kind ≤ 6 → InR regs x.op := fun x hx h1 h2 => g.inF x.op (f.bare_mem _ (g.tk x hx).2.2.2.2.1) h1 h2
theorem wrs_snoc' (l : List OpD) (x : OpD) : wrs (l ++ [x]) = if x.kind ≠ 7 ∧ x.kind ≠ 0 then wrs l ++ [x] else wrs l := by
  rw [wrs_append]
  by_cases h : x.kind ≠ 7 ∧ x.kind ≠ 0
  · rw [if_pos h]; unfold wrs; rw [List.filter_cons, if_pos (by simp [h.1, h.2])]; rfl
  · rw [if_neg h]; have : wrs [x] = [] := by unfold wrs; rw [List.filter_cons, if_neg (by simp; intro h1; exact Classical.byContradiction fun h2 => h ⟨h1, h2⟩)]; rfl
    rw [this, List.append_nil]

section
variable {P : Program} {a : Act} {w : World} {Q : Exit → Act → World → Prop}
/-- A scope: two statements, a label, and what jumps back to it. -/
theorem wp_scope_at {X Y rest : Code} (l : Nat) (J : Act → World → Prop) (μ : Act → World → Nat) (hf : findLabel (X.seq (Y.seq ((Code.label l).seq rest))) l = some (Code.skip.seq rest))
    (first : X.wp P (Exit.then (fun a w => Y.wp P (Exit.then J (fun _ _ _ => False)) a w) (fun _ _ _ => False)) a w)
    (pass : ∀ a w, J a w → rest.wp P (Exit.jump l (fun a' w' => J a' w' ∧ μ a' w' < μ a w) Q) a w) : (Code.scope (X.seq (Y.seq ((Code.label l).seq rest)))).wp P Q a w := by
  refine wp_scope_jumps l J μ hf ?_ (fun a w hJ => wp_seq (wp_skip (pass a w hJ)))
  refine wp_seq (wp_mono first fun e a1 w1 h => ?_)
  cases e with
  | normal =>
    refine wp_seq (wp_mono h fun e a2 w2 h2 => ?_)
    cases e with
    | normal =>
      refine wp_seq (wp_label (wp_mono (pass a2 w2 h2) fun e a3 w3 h3 => ?_))
      cases e with
      | goto l' => exact ⟨h3.1, h3.2.1⟩
      | _ => exact h3
    | _ => exact h2.elim
  | _ => exact h.elim
end

theorem below2 (W : World) (o1 o2 : Obj) : Below W.heap.size W ((W.alloc o1).alloc o2) := Below.alloc (Below.alloc (Below.refl _ _) (Nat.le_refl _) _) (by simp) _
theorem wrs_length' (l : List OpD) : (wrs l).length ≤ l.length := List.length_filter_le _ _
theorem arr_of_size (t : Array Value) (n : Nat) (h : t.size = n) : t = ((List.range n).map fun i => t.getD i undef).toArray := by
  subst h
  apply Array.ext
  · simp
  · intro i h1 h2
    simp [h1]
theorem arr80 (t : Array Value) (h : t.size = 80) : t = #[t.getD 0 undef, t.getD 1 undef, t.getD 2 undef, t.getD 3 undef, t.getD 4 undef, t.getD 5 undef, t.getD 6 undef, t.getD 7 undef, t.getD 8 undef, t.getD 9 undef, t.getD 10 undef, t.getD 11 undef, t.getD 12 undef, t.getD 13 undef, t.getD 14 undef, t.getD 15 undef, t.getD 16 undef, t.getD 17 undef, t.getD 18 undef, t.getD 19 undef, t.getD 20 undef, t.getD 21 undef, t.getD 22 undef, t.getD 23 undef, t.getD 24 undef, t.getD 25 undef, t.getD 26 undef, t.getD 27 undef, t.getD 28 undef, t.getD 29 undef, t.getD 30 undef, t.getD 31 undef, t.getD 32 undef, t.getD 33 undef, t.getD 34 undef, t.getD 35 undef, t.getD 36 undef, t.getD 37 undef, t.getD 38 undef, t.getD 39 undef, t.getD 40 undef, t.getD 41 undef, t.getD 42 undef, t.getD 43 undef, t.getD 44 undef, t.getD 45 undef, t.getD 46 undef, t.getD 47 undef, t.getD 48 undef, t.getD 49 undef, t.getD 50 undef, t.getD 51 undef, t.getD 52 undef, t.getD 53 undef, t.getD 54 undef, t.getD 55 undef, t.getD 56 undef, t.getD 57 undef, t.getD 58 undef, t.getD 59 undef, t.getD 60 undef, t.getD 61 undef, t.getD 62 undef, t.getD 63 undef, t.getD 64 undef, t.getD 65 undef, t.getD 66 undef, t.getD 67 undef, t.getD 68 undef, t.getD 69 undef, t.getD 70 undef, t.getD 71 undef, t.getD 72 undef, t.getD 73 undef, t.getD 74 undef, t.getD 75 undef, t.getD 76 undef, t.getD 77 undef, t.getD 78 undef, t.getD 79 undef] := arr_of_size t 80 h
theorem frame80 {t : Array Value} (h : t.size = 80) {s0 s1 s2 s3 s8 s9 s10 s11 : Value} (h0 : t.getD 0 undef = s0) (h1 : t.getD 1 undef = s1) (h2 : t.getD 2 undef = s2) (h3 : t.getD 3 undef = s3) (h8 : t.getD 8 undef = s8) (h9 : t.getD 9 undef = s9) (h10 : t.getD 10 undef = s10) (h11 : t.getD 11 undef = s11) :
    ∃ u : Nat → Value, t = #[s0, s1, s2, s3, u 4, u 5, u 6, u 7, s8, s9, s10, s11, u 12, u 13, u 14, u 15, u 16, u 17, u 18, u 19, u 20, u 21, u 22, u 23, u 24, u 25, u 26, u 27, u 28, u 29, u 30, u 31, u 32, u 33, u 34, u 35, u 36, u 37, u 38, u 39, u 40, u 41, u 42, u 43, u 44, u 45, u 46, u 47, u 48, u 49, u 50, u 51, u 52, u 53, u 54, u 55, u 56, u 57, u 58, u 59, u 60, u 61, u 62, u 63, u 64, u 65, u 66, u 67, u 68, u 69, u 70, u 71, u 72, u 73, u 74, u 75, u 76, u 77, u 78, u 79] :=
  ⟨fun i => t.getD i undef, by subst h0 h1 h2 h3 h8 h9 h10 h11; exact arr80 t h⟩

/-- Where the machine stands when `N` steps are to come. -/
def ExJ (code : List (OpD × Int)) (steps : List Tk) (S : Nat → World → Prop) (G0 : List Nat) (ac : Option Addr) (cc gr nr cr B Bl : Nat) (most : Int) (see : Value) (r0 : List UInt64) (W : World) (N : Nat) (a' : Act) (wr : World) : Prop :=
  ∃ (pre rest : List Tk) (p d k : Nat) (st : List UInt64), a'.defers = [] ∧ a'.tmps.size = 80 ∧
    a'.tmps.getD 0 undef = .slice ac code.length cc ∧ a'.tmps.getD 1 undef = .slice (some ⟨gr, 0, none⟩) nr cr ∧ a'.tmps.getD 2 undef = .int .i64 most ∧ a'.tmps.getD 3 undef = see ∧ a'.tmps.getD 8 undef = .pointer (some ⟨Bl, 0, none⟩) ∧
    a'.tmps.getD 9 undef = .int .i64 (p : Int) ∧ a'.tmps.getD 10 undef = .int .i64 (k : Int) ∧ a'.tmps.getD 11 undef = .int .i64 (d : Int) ∧
    rest.length = N ∧ p ≤ code.length ∧ k = st.length ∧ k ≤ 8 ∧ Chn code (p, st) rest (code.length, []) ∧ steps = pre ++ rest ∧ d = (wrs (pre.map (·.op))).length ∧ d ≤ 1200000 ∧ (most < 0 ∨ (d : Int) ≤ most) ∧
    LeftAt wr Bl st ∧ Own wr B 50 (some ⟨gr, 0, none⟩) cr (runR (wrs (pre.map (·.op))) r0) ∧ S d wr ∧ Turned (gr :: G0) W wr
theorem ExJ.measure {J : Nat → Act → World → Prop} {N : Nat} {a a' : Act} {w w' : World} (hN : N + 1 = leastOf (fun N => J N a w)) (h : J N a' w') : leastOf (fun N => J N a' w') < leastOf (fun N => J N a w) := by
  have := (leastOf_spec (p := fun N => J N a' w') ⟨N, h⟩).2 N h
  omega

set_option maxRecDepth 100000 in
set_option maxHeartbeats 6400000 in
theorem execRun_calls  (S : Nat → World → Prop) (G0 : List Nat) (regs : Int) (f : Fo) (g : Good regs f) (ac : Option Addr) (cc gr cr B : Nat) (most : Int) (r0 : List UInt64) (w : World)
    (hc : At w ac (f.bare.code 0)) (hcb : f.bare.code 0 ≠ [] → ∀ q, ac.map (·.block) = some q → q ≠ gr ∧ q ∉ G0)
    (hr : Own w B 50 (some ⟨gr, 0, none⟩) cr r0) (hrl : (r0.length : Int) = regs)
    (hS : S 0 w) (hK : ∀ i W W', S i W → W.heap.size ≤ W'.heap.size → (∀ b ∈ G0, W'.heap[b]? = W.heap[b]?) → S i W')
    (hG : ∀ b ∈ G0, b < w.heap.size ∧ b ≠ gr)
    (hsee : ∀ (i : Nat) (x : OpD) (W : World), f.unroll[i]? = some x → S i W → Calls Tryz.prog 68 #[.int .i64 (i : Int), .agg #[.int .i64 x.kind, .int .i64 x.d, .int .i64 x.a, .int .i64 x.b, .int .u64 (x.v.toNat : Int)]] W fun e W' => e = .returned (.tuple #[]) ∧ S (i + 1) W' ∧ Turned G0 W W') :
    Calls Tryz.prog 67 #[.slice ac (f.bare.code 0).length cc, .slice (some ⟨gr, 0, none⟩) r0.length cr, .int .i64 most, .func (.func 68) #[] #[]] w fun e w' => e = .returned (.tuple #[]) ∧ Own w' B 50 (some ⟨gr, 0, none⟩) cr (runR (uptoL f.unroll most) r0) ∧ S (uptoL f.unroll most).length w' ∧ Turned (gr :: G0) w w' := by
  have hlen := g.code_length
  have HTK := hide g.tk
  have HPOS := hide g.tk_pos
  have hchn := hide g.chn
  have HIN := hide g.tk_in
  have HOPS := hide g.steps_ops
  have hgl := g.gone_le
  rw [← steps_length] at hgl
  obtain ⟨r1, r2⟩ : 1 ≤ regs ∧ regs ≤ 64 := ⟨g.r1, g.r2⟩
  generalize f.bare.code 0 = code at *
  generalize f.steps = steps at *
  generalize f.unroll = U at *
  have HCB := hide hcb
  have HK := hide hK
  have HG := hide hG
  have HSEE := hide hsee
  have HRL := hide hrl
  have hgr := (hr.blk gr rfl)
  obtain ⟨nr, hnr⟩ : ∃ nr, nr = r0.length := ⟨_, rfl⟩
  have hnr64 : nr ≤ 64 := by omega
  have HNR := hide hnr
  rw [← hnr]
  clear hcb hK hG hsee hrl g hnr
  go_enter Tryz.func67, Tryz.ntmps67
  go_wp2
  refine wp_scope_at 0 (fun a' wr => ∃ N, ExJ code steps S G0 ac cc gr nr cr B w.heap.size most (.func (.func 68) #[] #[]) r0 w N a' wr) (fun a' wr => leastOf fun N => ExJ code steps S G0 ac cc gr nr cr B w.heap.size most (.func (.func 68) #[] #[]) r0 w N a' wr) rfl ?_ ?_
  · go_wp2
    exact ⟨steps.length, [], steps, 0, 0, 0, [], rfl, rfl, rfl, rfl, rfl, rfl, rfl, rfl, rfl, rfl, rfl, by omega, rfl, by omega, hchn.out, rfl, rfl, by omega, by omega,
      ⟨_, Blk.new w _ _, rfl, fun i v h => by simp at h⟩, hr.alloc _, HK.out _ _ _ hS (by simp) (fun b hb => Below.heap_alloc _ _ _ (HG.out b hb).1), Turned.ofBelow (Below.alloc (Below.refl _ _) (Nat.le_refl _) _)⟩
  · intro a' wr hJ
    obtain ⟨N0, hN0⟩ : ∃ N0, N0 = leastOf (fun N => ExJ code steps S G0 ac cc gr nr cr B w.heap.size most (.func (.func 68) #[] #[]) r0 w N a' wr) := ⟨_, rfl⟩
    have hs := (leastOf_spec hJ).1
    rw [← hN0] at hs
    obtain ⟨pre, rest, p, d, k, st, hdf, hsz, f0, f1, f2, f3, f8, f9, f10, f11, hrN, hp, hk, hk8, hch, hst, hd, hd5, hdm, hL, hown, hSd, hT⟩ := hs
    obtain ⟨tm, df⟩ := a'
    simp only at hdf hsz f0 f1 f2 f3 f8 f9 f10 f11
    obtain ⟨u, rfl⟩ := frame80 hsz f0 f1 f2 f3 f8 f9 f10 f11
    subst hdf
    clear hsz f0 f1 f2 f3 f8 f9 f10 f11
    have HN0 := hide hN0
    have HKK := hide hk
    have HST := hide hst
    have HD := hide hd
    have HCH := hide hch
    have hzT := hT.size
    have hG0 : ∀ b ∈ gr :: G0, b < w.heap.size := fun b hb => by
      simp only [List.mem_cons] at hb
      rcases hb with rfl | hb
      · exact hgr.2
      · exact (HG.out b hb).1
    have hXr : At wr ac code := hc.turned hT (fun hne q hq e => by
      obtain ⟨h1, h2⟩ := HCB.out hne q e
      simp only [List.mem_cons] at hq
      exact hq.elim h1 h2)
    have hLl := hL.lt
    have HG0 := hide hG0
    clear hN0 hk hst hd hch hJ hG0
    cases rest with
    | nil =>
      have e := HCH.out
      change (p, st) = (code.length, []) at e
      injection e with e1 e2
      subst e1
      have hU : wrs (pre.map (·.op)) = U := by rw [← HOPS.out, HST.out]; simp
      have hup : uptoL U most = wrs (pre.map (·.op)) := by
        unfold uptoL
        rw [hU]
        rcases hdm with h | h
        · rw [if_pos h]
        · rw [if_neg (by omega), List.take_of_length_le (by rw [← hU, ← HD.out]; omega)]
      have HUP := hide hup
      clear e2 hU hup
      go_wp2
      simp only [Exit.jump]
      try rw [Exit.noGoto_ret]
      refine bodyPost_ret (results_none rfl _ _ _) rfl ⟨rfl, ?_⟩
      rw [HUP.out, ← HD.out]
      exact ⟨hown, hSd, hT⟩
    | cons x rest =>
      obtain ⟨e1, e2, e3⟩ := HCH.out
      injection e1 with e1a e1b
      subst e1a e1b
      have hplt : x.at' < code.length := (List.getElem?_eq_some_iff.1 e2).1
      have bp : ((x.at' : Int) == (code.length : Int)) = false := by simp; omega
      have hpU : wrs (pre.map (·.op)) ++ wrs ((x :: rest).map (·.op)) = U := by rw [← wrs_append, ← List.map_append, ← HST.out, HOPS.out]
      by_cases hdq : (d : Int) = most
      · have bd : ((d : Int) == most) = true := by simpa using hdq
        have hup : uptoL U most = wrs (pre.map (·.op)) := by
          unfold uptoL
          rw [if_neg (by omega), ← hpU, ← hdq, Int.toNat_natCast, HD.out, List.take_left]
        have HUP := hide hup
        clear hpU hup hdq e2 e3
        go_wp2
        simp only [Exit.jump]
        try rw [Exit.noGoto_ret]
        refine bodyPost_ret (results_none rfl _ _ _) rfl ⟨rfl, ?_⟩
        rw [HUP.out, ← HD.out]
        exact ⟨hown, hSd, hT⟩
      have bd : ((d : Int) == most) = false := by simpa using hdq
      have hmem : x ∈ steps := by rw [HST.out]; simp
      obtain ⟨t1, t2, t3, t4, t5, t6, t7, t8, t9⟩ := HTK.out x hmem
      obtain ⟨b1, off1, hac, x0, x1, x2, x3, x4, x5⟩ := hXr.getIns (Below.refl _ _) e2
      subst hac
      simp only at x0 x1 x2 x3 x4 x5
      have KEEP : Hid (∀ W3, Turned [w.heap.size] wr W3 → Own W3 B 50 (some ⟨gr, 0, none⟩) cr (runR (wrs (pre.map (·.op))) r0) ∧ S d W3 ∧ Turned (gr :: G0) w W3) := fun W3 hT3 =>
        ⟨hown.turned hT3 (fun q hq => by simp at hq; simp; omega), HK.out _ _ _ hSd hT3.size (fun b hb => hT3.block b (by have := (HG.out b hb).1; omega) (by have := (HG.out b hb).1; simp; omega)), hT.trans hT3 (fun q hq => by simp at hq; exact .inr (by omega))⟩
      have hmap : (pre ++ [x]).map (·.op) = pre.map (·.op) ++ [x.op] := by simp
      have hst2 : steps = (pre ++ [x]) ++ rest := by rw [HST.out]; simp
      have hsn := wrs_snoc' (pre.map (·.op)) x.op
      rw [← hmap] at hsn
      have HSN := hide hsn
      have HST2 := hide hst2
      have HE3 := hide e3
      have HPX := hide (HPOS.out x hmem)
      have HINX := hide (HIN.out x hmem)
      have HPU := hide hpU
      have hrdx : d < 1200000 := by
        have h1 := wrs_length' (pre.map (·.op))
        have h2 : (pre.map (·.op)).length + 1 ≤ steps.length := by rw [HST.out]; simp
        have := HD.out
        omega
      have hmost : most < 0 ∨ (d : Int) + 1 ≤ most := by omega
      clear hmap hst2 hsn e2 e3 hmem hpU hdq t5
      rcases kind_cases x.op with ⟨k7, b7, b0⟩ | ⟨k0, b7, b0⟩ | ⟨k7, k0, b7, b0⟩
      · have hnx : x.next = (x.at' + 1, x.st ++ [x.op.v]) := by unfold Tk.next; rw [if_pos k7]
        have hch2 := HE3.out
        rw [hnx] at hch2
        have HCH2 := hide hch2
        have hk7 := t3 k7
        rw [← HKK.out] at hk7
        have hws : wrs ((pre ++ [x]).map (·.op)) = wrs (pre.map (·.op)) := by rw [HSN.out, if_neg (fun h => h.1 k7)]
        have HWS := hide hws
        obtain ⟨v0, c0, c1⟩ := hL.room (i := k) (by omega)
        have hL3 := hL.push (by have := HKK.out; omega) x.op.v
        rw [← HKK.out] at hL3
        have HL3 := hide hL3
        clear hL3
        clear hnx hch2 k7 t3 t4 hws
        go_wp2
        go_step3
        refine ⟨rfl, ?_⟩
        suffices hnew : ExJ code steps S G0 (some ⟨b1, off1, none⟩) cc gr nr cr B w.heap.size most (.func (.func 68) #[] #[]) r0 w rest.length _ _ from ⟨⟨_, hnew⟩, ExJ.measure (J := ExJ code steps S G0 (some ⟨b1, off1, none⟩) cc gr nr cr B w.heap.size most (.func (.func 68) #[] #[]) r0 w) (by have := HN0.out; rw [← this, ← hrN]; rfl) hnew⟩
        refine ⟨pre ++ [x], rest, x.at' + 1, d, k + 1, x.st ++ [x.op.v], rfl, rfl, rfl, rfl, rfl, rfl, rfl, rfl, rfl, rfl, rfl, by omega, by rw [List.length_append, ← HKK.out]; rfl, by omega, HCH2.out, HST2.out, by rw [HWS.out]; exact HD.out, hd5, hdm,
          HL3.out.turned (Turned.ofBelow (F := []) (below2 _ _ _)) (by simp), ?_⟩
        rw [HWS.out]
        exact KEEP.out _ ((Turned.ofGrown (F := [w.heap.size]) (grown_setCell _ _ _ _) (fun q hq => .inl (by injection hq with hq; simp [hq]))).trans (Turned.ofBelow (F := []) (below2 _ _ _)) (fun q hq => by cases hq))
      · have hst0 := t4 k0
        obtain ⟨st', last, hst'⟩ : ∃ st' last, x.st = st' ++ [last] := ⟨x.st.dropLast, x.st.getLast hst0, (List.dropLast_concat_getLast hst0).symm⟩
        have hpos := HPX.out k0
        have hk' : k = st'.length + 1 := by rw [HKK.out, hst']; simp
        obtain ⟨k', rfl⟩ : ∃ k', k = k' + 1 := ⟨k - 1, by omega⟩
        have hk2 : k' = st'.length := by omega
        have hgl : x.st.getLast?.getD 0 = last := by rw [hst']; simp
        rw [hgl] at hpos
        have hub := last.toNat_lt
        have hlast : x.st[k']? = some last := by rw [hst', hk2]; simp
        have c0 := hL.cell hlast
        obtain ⟨v0, c0', c1⟩ := hL.room (i := k') (by omega)
        have hsub : ((last.toNat : Int) - 1) = ((last - 1).toNat : Int) := by rw [UInt64.toNat_sub]; simp; omega
        have hL1 : LeftAt wr w.heap.size (st' ++ [last]) := by rw [← hst']; exact hL
        have hL3 := hL1.turn (by omega) (last - 1)
        rw [← hsub, ← hk2] at hL3
        have HL3 := hide hL3
        have hws : wrs ((pre ++ [x]).map (·.op)) = wrs (pre.map (·.op)) := by rw [HSN.out, if_neg (fun h => h.2 k0)]
        have HWS := hide hws
        have HK2 := hide hk2
        have HS' := hide hst'
        have hkk8 : (k' : Int) < 8 := by omega
        clear c0' hL1 hL3
        by_cases hq : 1 < last.toNat
        · have hnx : x.next = (x.to.toNat, st' ++ [last - 1]) := by unfold Tk.next; rw [if_neg (by omega), if_pos k0, hgl, if_pos hq, hst']; simp
          have hch2 := HE3.out
          rw [hnx] at hch2
          have HCH2 := hide hch2
          have hdq : decide (0 < (last.toNat : Int) - 1) = true := by simp; omega
          clear hnx hch2 k0 t3 t4 hlast hgl hsub hst0 hst' hk2 hk' HPX hws
          go_wp2
          go_step3
          refine ⟨rfl, ?_⟩
          suffices hnew : ExJ code steps S G0 (some ⟨b1, off1, none⟩) cc gr nr cr B w.heap.size most (.func (.func 68) #[] #[]) r0 w rest.length _ _ from ⟨⟨_, hnew⟩, ExJ.measure (J := ExJ code steps S G0 (some ⟨b1, off1, none⟩) cc gr nr cr B w.heap.size most (.func (.func 68) #[] #[]) r0 w) (by have := HN0.out; rw [← this, ← hrN]; rfl) hnew⟩
          refine ⟨pre ++ [x], rest, x.to.toNat, d, k' + 1, st' ++ [last - 1], rfl, rfl, rfl, rfl, rfl, rfl, rfl, congrArg (Value.int .i64) (by omega), rfl, rfl, rfl, by omega, by rw [List.length_append, ← HK2.out]; rfl, by omega, HCH2.out, HST2.out, by rw [HWS.out]; exact HD.out, hd5, hdm,
            HL3.out.turned (Turned.ofBelow (F := []) (below2 _ _ _)) (by simp), ?_⟩
          rw [HWS.out]
          exact KEEP.out _ ((Turned.ofGrown (F := [w.heap.size]) (grown_setCell _ _ _ _) (fun q hq => .inl (by injection hq with hq; simp [hq]))).trans (Turned.ofBelow (F := []) (below2 _ _ _)) (fun q hq => by cases hq))
        · have hnx : x.next = (x.at' + 1, st') := by unfold Tk.next; rw [if_neg (by omega), if_pos k0, hgl, if_neg hq, hst']; simp
          have hch2 := HE3.out
          rw [hnx] at hch2
          have HCH2 := hide hch2
          have hdq : decide (0 < (last.toNat : Int) - 1) = false := by simp; omega
          clear hnx hch2 k0 t3 t4 hlast hgl hsub hst0 hst' hk2 hk' HPX hws
          go_wp2
          go_step3
          refine ⟨rfl, ?_⟩
          suffices hnew : ExJ code steps S G0 (some ⟨b1, off1, none⟩) cc gr nr cr B w.heap.size most (.func (.func 68) #[] #[]) r0 w rest.length _ _ from ⟨⟨_, hnew⟩, ExJ.measure (J := ExJ code steps S G0 (some ⟨b1, off1, none⟩) cc gr nr cr B w.heap.size most (.func (.func 68) #[] #[]) r0 w) (by have := HN0.out; rw [← this, ← hrN]; rfl) hnew⟩
          refine ⟨pre ++ [x], rest, x.at' + 1, d, k', st', rfl, rfl, rfl, rfl, rfl, rfl, rfl, rfl, rfl, rfl, rfl, by omega, HK2.out, by omega, HCH2.out, HST2.out, by rw [HWS.out]; exact HD.out, hd5, hdm,
            (HL3.out.pop).turned (Turned.ofBelow (F := []) (below2 _ _ _)) (by simp), ?_⟩
          rw [HWS.out]
          exact KEEP.out _ ((Turned.ofGrown (F := [w.heap.size]) (grown_setCell _ _ _ _) (fun q hq => .inl (by injection hq with hq; simp [hq]))).trans (Turned.ofBelow (F := []) (below2 _ _ _)) (fun q hq => by cases hq))
      · have hkk1 : 1 ≤ x.op.kind := by omega
        have hkk2 : x.op.kind ≤ 6 := by omega
        obtain ⟨⟨d1, d2⟩, ⟨a1, a2⟩, ⟨i1, i2⟩⟩ := HINX.out hkk1 hkk2
        have hlr : (runR (wrs (pre.map (·.op))) r0).length = nr := by rw [runR_length, HNR.out]
        have HLR := hide hlr
        have HRL2 := HRL.out
        rw [← HNR.out] at HRL2
        have hAn : x.op.a.toNat < nr := by omega
        have hEn : x.op.b.toNat < nr := by omega
        have hDn : x.op.d.toNat < nr := by omega
        have a3 : x.op.a < (nr : Int) := by omega
        have i3 : x.op.b < (nr : Int) := by omega
        have d3 : x.op.d < (nr : Int) := by omega
        generalize hregs : runR (wrs (pre.map (·.op))) r0 = R at *
        obtain ⟨va, hva⟩ : ∃ va, R[x.op.a.toNat]? = some va := ⟨R[x.op.a.toNat]'(by omega), List.getElem?_eq_getElem _⟩
        obtain ⟨vb, hvb⟩ : ∃ vb, R[x.op.b.toNat]? = some vb := ⟨R[x.op.b.toNat]'(by omega), List.getElem?_eq_getElem _⟩
        obtain ⟨vd, hvd⟩ : ∃ vd, R[x.op.d.toNat]? = some vd := ⟨R[x.op.d.toNat]'(by omega), List.getElem?_eq_getElem _⟩
        have ra : wr.cell? ⟨gr, x.op.a.toNat, none⟩ = some (.int .u64 (va.toNat : Int)) := by simpa [Flat.n] using hown.cellAt hva (f := 0) rfl
        have rb : wr.cell? ⟨gr, x.op.b.toNat, none⟩ = some (.int .u64 (vb.toNat : Int)) := by simpa [Flat.n] using hown.cellAt hvb (f := 0) rfl
        have rd : wr.cell? ⟨gr, x.op.d.toNat, none⟩ = some (.int .u64 (vd.toNat : Int)) := by simpa [Flat.n] using hown.cellAt hvd (f := 0) rfl
        have rf := hown.frozen x.op.d.toNat
        have hgl := (hown.blk gr rfl).2
        have HAP := hide (fun w => Apply_calls x.op va vb w)
        have HVA := hide hva
        have HVB := hide hvb
        have HVD := hide hvd
        have HRG := hide hregs
        have hOb := Blk.new (wr.alloc (.cells #[.int .i64 x.op.kind, .int .i64 x.op.d, .int .i64 x.op.a, .int .i64 x.op.b, .int .u64 (x.op.v.toNat : Int), .int .i64 x.to] 176)) 89 #[.int .i64 x.op.kind, .int .i64 x.op.d, .int .i64 x.op.a, .int .i64 x.op.b, .int .u64 (x.op.v.toNat : Int)]
        simp only [World.size_alloc] at hOb
        have hown2 := hown.belowN (below2 wr (.cells #[.int .i64 x.op.kind, .int .i64 x.op.d, .int .i64 x.op.a, .int .i64 x.op.b, .int .u64 (x.op.v.toNat : Int), .int .i64 x.to] 176) (.cells #[.int .i64 x.op.kind, .int .i64 x.op.d, .int .i64 x.op.a, .int .i64 x.op.b, .int .u64 (x.op.v.toNat : Int)] 89))
        clear hva hvb hvd hregs hlr t3 t4 HPX hkk1 hkk2
        go_wp2_with fail
        have hB02 := below2 wr (.cells #[.int .i64 x.op.kind, .int .i64 x.op.d, .int .i64 x.op.a, .int .i64 x.op.b, .int .u64 (x.op.v.toNat : Int), .int .i64 x.to] 176) (.cells #[.int .i64 x.op.kind, .int .i64 x.op.d, .int .i64 x.op.a, .int .i64 x.op.b, .int .u64 (x.op.v.toNat : Int)] 89)
        generalize hW2 : (wr.alloc (.cells #[.int .i64 x.op.kind, .int .i64 x.op.d, .int .i64 x.op.a, .int .i64 x.op.b, .int .u64 (x.op.v.toNat : Int), .int .i64 x.to] 176)).alloc (.cells #[.int .i64 x.op.kind, .int .i64 x.op.d, .int .i64 x.op.a, .int .i64 x.op.b, .int .u64 (x.op.v.toNat : Int)] 89) = W2 at *
        obtain ⟨y0, y1, y2, y3, y4, z0, z1, z2, z3, z4⟩ := hOb.c5
        have hz2 : W2.heap.size = wr.heap.size + 2 := by rw [← hW2]; simp
        have ra2 : W2.cell? ⟨gr, x.op.a.toNat, none⟩ = some (.int .u64 (va.toNat : Int)) := by simpa [Flat.n] using hown2.cellAt HVA.out (f := 0) rfl
        have rb2 : W2.cell? ⟨gr, x.op.b.toNat, none⟩ = some (.int .u64 (vb.toNat : Int)) := by simpa [Flat.n] using hown2.cellAt HVB.out (f := 0) rfl
        have rd2 : W2.cell? ⟨gr, x.op.d.toNat, none⟩ = some (.int .u64 (vd.toNat : Int)) := by simpa [Flat.n] using hown2.cellAt HVD.out (f := 0) rfl
        have rf2 := hown2.frozen x.op.d.toNat
        have hgl2 : gr < W2.heap.size := by omega
        have hol2 : wr.heap.size + 1 < W2.heap.size := by omega
        have hgo : gr ≠ wr.heap.size + 1 := by omega
        clear ra rb rd rf hW2
        obtain ⟨S', hS'⟩ : ∃ S' : World → Prop, S' = fun w' => (w'.cell? ⟨wr.heap.size + 1, 0, none⟩ = some (.int .i64 x.op.kind) ∧ w'.cell? ⟨wr.heap.size + 1, 1, none⟩ = some (.int .i64 x.op.d) ∧ w'.cell? ⟨wr.heap.size + 1, 2, none⟩ = some (.int .i64 x.op.a) ∧ w'.cell? ⟨wr.heap.size + 1, 3, none⟩ = some (.int .i64 x.op.b) ∧ w'.cell? ⟨wr.heap.size + 1, 4, none⟩ = some (.int .u64 (x.op.v.toNat : Int))) ∧ w'.cell? ⟨gr, x.op.a.toNat, none⟩ = some (.int .u64 (va.toNat : Int)) ∧ w'.cell? ⟨gr, x.op.b.toNat, none⟩ = some (.int .u64 (vb.toNat : Int)) := ⟨_, rfl⟩
        have hSe : ∀ w', S' w' → (w'.cell? ⟨wr.heap.size + 1, 0, none⟩ = some (.int .i64 x.op.kind) ∧ w'.cell? ⟨wr.heap.size + 1, 1, none⟩ = some (.int .i64 x.op.d) ∧ w'.cell? ⟨wr.heap.size + 1, 2, none⟩ = some (.int .i64 x.op.a) ∧ w'.cell? ⟨wr.heap.size + 1, 3, none⟩ = some (.int .i64 x.op.b) ∧ w'.cell? ⟨wr.heap.size + 1, 4, none⟩ = some (.int .u64 (x.op.v.toNat : Int))) ∧ w'.cell? ⟨gr, x.op.a.toNat, none⟩ = some (.int .u64 (va.toNat : Int)) ∧ w'.cell? ⟨gr, x.op.b.toNat, none⟩ = some (.int .u64 (vb.toNat : Int)) := fun w' h => by rw [hS'] at h; exact h
        have HSE := hide hSe
        have HSI : Hid (S' W2.drew) := by show S' W2.drew; rw [hS']; exact ⟨⟨y0, y1, y2, y3, y4⟩, ra2, rb2⟩
        have HSI4 : Hid (∀ w4, Below W2.drew.heap.size W2.drew w4 → S' w4) := by
          show ∀ w4, _ → _
          intro w4 hb4
          obtain ⟨hc4, hf4⟩ := bcell hb4
          rw [hS']
          exact ⟨⟨(hc4 _ 0 hol2).trans y0, (hc4 _ 1 hol2).trans y1, (hc4 _ 2 hol2).trans y2, (hc4 _ 3 hol2).trans y3, (hc4 _ 4 hol2).trans y4⟩, (hc4 _ _ hgl2).trans ra2, (hc4 _ _ hgl2).trans rb2⟩
        clear hSe hS'
        refine wp_region_call 14 S' (by kernel_rfl) (by kernel_rfl) HSI.out ?_
        simp only [List.take_succ_cons, List.take_zero, List.drop_succ_cons, List.drop_zero]
        iterate 14
          apply headK_step (by rfl)
          · intro w' hw'
            obtain ⟨⟨s0, s1, s2, s3, s4⟩, s5, s6⟩ := HSE.out w' hw'
            go_simp
            rfl
          intro a' ha'
          simp only [Act.put, List.setIfInBounds_toArray, List.set_cons_succ, List.set_cons_zero] at ha'
          subst ha'
        refine headK_nil ?_
        intro o ho K0 hK0
        simp only [List.getElem?_cons_succ, List.getElem?_cons_zero, Option.some.injEq] at ho
        subst ho
        have HK0 := hide hK0
        clear hK0
        go_simp
        go_at_call 114
        refine (HAP.out _).mono ?_
        rintro e w4 ⟨rfl, hb4⟩
        refine HK0.out _ _ (HSI4.out w4 hb4) ?_
        obtain ⟨hc4, hf4⟩ := bcell hb4
        have q0 := (hc4 _ 0 hol2).trans y0
        have q1 := (hc4 _ 1 hol2).trans y1
        have q2 := (hc4 _ 2 hol2).trans y2
        have q3 := (hc4 _ 3 hol2).trans y3
        have q4 := (hc4 _ 4 hol2).trans y4
        have qd := (hc4 _ _ hgl2).trans rd2
        have qf := (hf4 _ x.op.d.toNat hgl2).trans rf2
        clear hc4 hf4 HK0
        go_wp2
        refine NoPanic.normal ?_
        have hb4' : Below W2.heap.size W2 w4 := ⟨hb4.os, hb4.tape, hb4.output, hb4.size, hb4.block⟩
        have hTb : Turned [gr] wr w4 := (Turned.ofBelow (F := [gr]) hB02).trans (Turned.ofBelow (F := []) hb4') (fun b hb => by cases hb)
        have hT5 : Turned [gr] wr (w4.setCell ⟨gr, x.op.d.toNat, none⟩ (.int .u64 ((applyU x.op va vb).toNat : Int))) := hTb.trans (Turned.ofGrown (F := [gr]) (grown_setCell _ _ _ _) (fun q hq => .inl (by injection hq with hq; simp [hq]))) (fun b hb => .inl hb)
        have hown4 : Own w4 B 50 (some ⟨gr, 0, none⟩) cr R := hown2.drew.belowN hb4
        have hown5 := hown4.set1 x.op.d.toNat (applyU x.op va vb) _ rfl
        have hstep : R.set x.op.d.toNat (applyU x.op va vb) = runR (wrs ((pre ++ [x]).map (·.op))) r0 := by
          rw [HSN.out, if_pos ⟨k7, k0⟩, runR_append, HRG.out]
          show _ = stepR R x.op
          unfold stepR getR
          rw [HVA.out, HVB.out]
          rfl
        rw [hstep] at hown5
        have hS5 := HK.out _ _ _ hSd hT5.size (fun b hb => hT5.block b (by have := (HG.out b hb).1; omega) (by have := (HG.out b hb).2; simpa using this))
        have hL5 := hL.turned hT5 (by simp; omega)
        have hUd : U[d]? = some x.op := by
          rw [← HPU.out, HD.out, List.getElem?_append_right (Nat.le_refl _), Nat.sub_self, List.map_cons]
          unfold wrs
          rw [List.filter_cons, if_pos (by simp [k7, k0])]
          rfl
        have HC := hide (HSEE.out d x.op _ hUd hS5)
        have hnx : x.next = (x.at' + 1, x.st) := by unfold Tk.next; rw [if_neg k7, if_neg k0]
        have hch2 := HE3.out
        rw [hnx] at hch2
        have HCH2 := hide hch2
        have HOWN := hide hown5
        have HD2 : Hid (d + 1 = (wrs ((pre ++ [x]).map (·.op))).length) := by show d + 1 = _; rw [HSN.out, if_pos ⟨k7, k0⟩, List.length_append, ← HD.out]; rfl
        have hl4 : gr < w4.heap.size := by have := hb4.size; simp at this; omega
        clear hnx hch2 hUd hS5 hstep hown5 hown4 k7 k0 HSI4 HSI HSE hOb hown2
        go_wp2_with (go_at_call 68; ((with_reducible refine (HC.out).mono ?_); rintro e w6 ⟨rfl, hS6, hT6⟩))
        have hTT : Turned (gr :: G0) w w6 := (hT.trans hT5 (fun q hq => .inl (by simp at hq; simp [hq]))).trans hT6 (fun q hq => .inl (by simp [hq]))
        go_step3
        refine ⟨rfl, ?_⟩
        suffices hnew : ExJ code steps S G0 (some ⟨b1, off1, none⟩) cc gr nr cr B w.heap.size most (.func (.func 68) #[] #[]) r0 w rest.length _ _ from ⟨⟨_, hnew⟩, ExJ.measure (J := ExJ code steps S G0 (some ⟨b1, off1, none⟩) cc gr nr cr B w.heap.size most (.func (.func 68) #[] #[]) r0 w) (by have := HN0.out; rw [← this, ← hrN]; rfl) hnew⟩
        exact ⟨pre ++ [x], rest, x.at' + 1, d + 1, k, x.st, rfl, rfl, rfl, rfl, rfl, rfl, rfl, rfl, rfl, rfl, rfl, by omega, HKK.out, by omega, HCH2.out, HST2.out, HD2.out, by omega, by omega,
          hL5.turned hT6 (fun hm => by have := (HG.out _ hm).1; omega), HOWN.out.turned hT6 (fun q hq hm => by simp at hq; subst hq; exact (HG.out _ hm).2 rfl), hS6, hTT⟩
end Go.Proofs.YtcamcnahkdiefaaGreat

/- Chapter 13: begin, Run, Upto, Last. -/
namespace Go.Proofs.YtcamcnahkdiefaaGreat
set_option linter.unusedVariables false
set_option linter.unusedSimpArgs false
open Go.RowKit

/-- may registers be handed in? -/
def dimsS (regs : Int) (l : List OpD) (n : Nat) : Int := if checkS regs l ≠ 0 then checkS regs l else if regs < (n : Int) then 10 else 0
theorem dims_good {regs : Int} {l : List OpD} {n : Nat} (h : dimsS regs l n = 0) : ∃ f : Fo, l = f.flat ∧ Good regs f ∧ (n : Int) ≤ regs := by
  unfold dimsS at h
  by_cases hc : checkS regs l = 0
  · rw [if_neg (by simpa using hc)] at h
    obtain ⟨f, rfl, g⟩ := good_of_check hc
    by_cases hn : regs < (n : Int)
    · rw [if_pos hn] at h; cases h
    · exact ⟨f, rfl, g, by omega⟩
  · rw [if_pos hc] at h; exact absurd h hc
theorem dims_of_good {regs : Int} {f : Fo} (g : Good regs f) {n : Nat} (hn : (n : Int) ≤ regs) : dimsS regs f.flat n = 0 := by
  unfold dimsS
  rw [if_neg (by simpa using g.check), if_neg (by omega)]
noncomputable def uptoS (regs : Int) (l : List OpD) (r : List UInt64) (m : Int) : List UInt64 := if dimsS regs l r.length = 0 then runR (uptoL (unrS regs l) m) (startR regs.toNat r) else []
theorem uptoS_good {regs : Int} {f : Fo} (g : Good regs f) {r : List UInt64} (hn : (r.length : Int) ≤ regs) (m : Int) : uptoS regs f.flat r m = runR (uptoL f.unroll m) (startR regs.toNat r) := by
  unfold uptoS
  rw [if_pos (dims_of_good g hn), unrS_good g]
theorem uptoS_bad {regs : Int} {l : List OpD} {r : List UInt64} (h : dimsS regs l r.length ≠ 0) (m : Int) : uptoS regs l r m = [] := by unfold uptoS; rw [if_neg h]

theorem tyU0 : TyZ Tryz.prog 46 50 (0 : UInt64) (.int .u64 0) := TyZ.of (bytes := 8) Tryz.underlying46 (by kernel_rfl) (by decide) rfl rfl
theorem enc_map (l : List UInt64) : l.flatMap Flat.enc = l.map fun x => Value.int .u64 (x.toNat : Int) := by
  induction l with
  | nil => rfl
  | cons x r ih => rw [List.flatMap_cons, ih]; rfl
theorem wpList_copyIn {P : Program} {w : World} {ops : Array Oper} {rest : List Oper} {o : Oper} {act : Act} {Q : Exit → Act → World → Prop} {T E : TypeId} (hu : P.underlying T = some (.slice E)) (hsz : (P.info? E).map (·.size) = some 1)
    {d s : Operand} (hgd : o.guard = none) (ho : o.op = .call { callee := .builtin .copy, args := #[d, s], argTypes := #[T, T] }) {B g dLen dCap sLen sCap : Nat} {sp : Option Addr} {l l2 : List UInt64}
    (hd : act.eval d = .slice (some ⟨g, 0, none⟩) dLen dCap) (hs : act.eval s = .slice sp sLen sCap) (hdl : dLen = l.length) (hsl : sLen = l2.length) (hle : l2.length ≤ l.length) (own : Own w B E (some ⟨g, 0, none⟩) dCap l) (src : At w sp l2)
    (h : ∀ w', Own w' B E (some ⟨g, 0, none⟩) dCap (l2 ++ l.drop l2.length) → w.grownBy w' (some g) → wpList P ops Q rest (act.put o.dst (goInt l2.length)) w') : wpList P ops Q (o :: rest) act w := by
  subst hdl hsl
  by_cases h0 : l2 = []
  · subst h0
    refine wpList_copy_nothing hgd d s T T ho E hu hsz _ _ _ _ _ _ hd hs (by simp) ?_
    exact h w (by simpa using own) (grown_drewN w 0 _)
  · obtain ⟨b, off, hsp, hlt⟩ := src.lt h0
    subst hsp
    rcases own.2 with ⟨hv, _⟩ | ⟨g', cap, cur, hv, hB, hg, hc1, hc2, hc3, hc4⟩
    · injection hv with h1 _ _; cases h1
    injection hv with e1 e2 e3
    subst e3
    injection e1 with e1
    injection e1 with e1 _ _
    subst e1
    rw [enc_map] at hc4
    have hn1 : Flat.n UInt64 = 1 := rfl
    rw [hn1, Nat.mul_one] at hc3 hc4
    have hcl : (l2.map fun x => Value.int .u64 (x.toNat : Int)).length = l2.length := by simp
    refine wpList_copy_own hgd d s T T ho E hu hsz g 0 _ _ ⟨b, off, none⟩ _ _ hd hs cur E hg (l2.map fun x => Value.int .u64 (x.toNat : Int)) (by rw [hcl]; exact (Nat.min_eq_left hle).symm) ?_ (by rw [hcl]; omega) (by intro v hv; obtain ⟨x, _, rfl⟩ := List.mem_map.1 hv; rfl) ?_
    · intro j v hv
      rw [List.getElem?_map] at hv
      cases hx : l2[j]? with
      | none => rw [hx] at hv; cases hv
      | some x =>
        rw [hx] at hv
        injection hv with hv
        obtain ⟨b', off', e, h2⟩ := src j x hx
        injection e with e
        injection e with e1 e2 _
        subst e1 e2
        have := h2 0 _ rfl
        rw [addr_add, ← hv]
        simpa [hn1] using this
    · rw [hcl]
      refine h _ ⟨enc_length _, .inr ⟨g, dCap, _, ?_, hB, setRow_heap w g _ _ _ _ hg, ?_, hc2, ?_, ?_⟩⟩ ⟨rfl, rfl, rfl, by simp [World.setRow], fun k hk hne => setRow_other w g k _ (fun e => hne (by rw [e]))⟩
      · rw [List.length_append, List.length_drop]
      · rw [List.length_append, List.length_drop]; omega
      · simp [hn1, hc3]; omega
      · rw [enc_map, hn1, Nat.mul_one, List.length_append, List.length_drop]
        have e1 : l2.length + (l.length - l2.length) = l.length := by omega
        rw [e1, List.toList_toArray, List.take_zero, List.nil_append, Nat.zero_add, List.map_append, List.map_drop, ← hc4, List.take_append, hcl, List.take_of_length_le (by rw [hcl]; omega), List.drop_take]

set_option maxHeartbeats 800000 in
theorem begin_bad (regs : Int) (a : Option Addr) (c : Nat) (l : List OpD) (ra : Option Addr) (rc : Nat) (r : List UInt64) (w : World) (h : At w a l) (hl : l.length ≤ 1000000) (hc : checkS regs l ≠ 0) :
    Calls Tryz.prog 66 #[.agg #[.int .i64 regs, .slice a l.length c], .slice ra r.length rc] w fun e w' => e = .returned (.tuple #[.slice none 0 0, .slice none 0 0, .int .i64 (checkS regs l)]) ∧ Below w.heap.size w w' := by
  have h1 := h.belowN (below_new12 w (.cells #[.int .i64 regs, .slice a l.length c] 24))
  have hb0 := below_new12 w (.cells #[.int .i64 regs, .slice a l.length c] 24)
  have HP := hide (Code_calls regs a c l _ h1 hl)
  obtain ⟨E, hE⟩ : ∃ E, E = checkS regs l := ⟨_, rfl⟩
  unfold CodePost at HP
  rw [← hE] at HP hc ⊢
  have e1 : (E == 0) = false := by simpa using hc
  have e2 : (E != 0) = true := by simpa using hc
  clear hE hc
  go_enter Tryz.func66, Tryz.ntmps66
  go_wp2_with (go_at_call 47; ((with_reducible refine (HP.out).mono ?_); rintro e w1 ⟨a1, c1, rfl, hown1, hb1⟩))
  go_ret3
  exact ⟨rfl, hb0.trans (hb1.mono hb0.size)⟩
set_option maxHeartbeats 800000 in
theorem begin_dims (regs : Int) (a : Option Addr) (c : Nat) (f : Fo) (g : Good regs f) (ra : Option Addr) (rc : Nat) (r : List UInt64) (w : World) (h : At w a f.flat) (hn : regs < (r.length : Int)) :
    Calls Tryz.prog 66 #[.agg #[.int .i64 regs, .slice a f.flat.length c], .slice ra r.length rc] w fun e w' => e = .returned (.tuple #[.slice none 0 0, .slice none 0 0, .int .i64 10]) ∧ Below w.heap.size w w' := by
  have hl : f.flat.length ≤ 4096 := g.len
  have h1 := h.belowN (below_new12 w (.cells #[.int .i64 regs, .slice a f.flat.length c] 24))
  have hb0 := below_new12 w (.cells #[.int .i64 regs, .slice a f.flat.length c] 24)
  have HP := hide (Code_calls regs a c f.flat _ h1 (by omega))
  unfold CodePost at HP
  rw [g.check, codeS_good g] at HP
  clear g
  go_enter Tryz.func66, Tryz.ntmps66
  go_wp2_with (go_at_call 47; ((with_reducible refine (HP.out).mono ?_); rintro e w1 ⟨a1, c1, rfl, hown1, hb1⟩; have hbx := (Blk.new w 24 #[.int .i64 regs, .slice a f.flat.length c]).belowN hb1; obtain ⟨p0, p1, p2, p3⟩ := hbx.c2))
  go_ret3
  exact ⟨rfl, hb0.trans (hb1.mono hb0.size)⟩
def BegPost (regs : Int) (f : Fo) (r : List UInt64) (w : World) (e : Ending) (w' : World) : Prop :=
  ∃ ac cc gr cr, e = .returned (.tuple #[.slice ac (f.bare.code 0).length cc, .slice (some ⟨gr, 0, none⟩) (startR regs.toNat r).length cr, .int .i64 0]) ∧ Own w' w.heap.size 176 ac cc (f.bare.code 0) ∧ Own w' w.heap.size 50 (some ⟨gr, 0, none⟩) cr (startR regs.toNat r) ∧ ac.map (·.block) ≠ some gr ∧ Below w.heap.size w w'
set_option maxRecDepth 100000 in
set_option maxHeartbeats 1600000 in
theorem begin_good (regs : Int) (a : Option Addr) (c : Nat) (f : Fo) (g : Good regs f) (ra : Option Addr) (rc : Nat) (r : List UInt64) (w : World) (h : At w a f.flat) (hr : At w ra r) (hn : (r.length : Int) ≤ regs) :
    Calls Tryz.prog 66 #[.agg #[.int .i64 regs, .slice a f.flat.length c], .slice ra r.length rc] w (BegPost regs f r w) := by
  have hl : f.flat.length ≤ 4096 := g.len
  obtain ⟨nr, rfl⟩ : ∃ nr : Nat, regs = nr := ⟨regs.toNat, by have := g.r1; omega⟩
  have hr64 : nr ≤ 64 := by have := g.r2; omega
  have h1 := h.belowN (below_new12 w (.cells #[.int .i64 nr, .slice a f.flat.length c] 24))
  have hr1 := hr.belowN (below_new12 w (.cells #[.int .i64 nr, .slice a f.flat.length c] 24))
  have hb0 := below_new12 w (.cells #[.int .i64 nr, .slice a f.flat.length c] 24)
  have HP := hide (Code_calls nr a c f.flat _ h1 (by omega))
  have hrl : r.length ≤ nr := by omega
  have hnn : ¬ nr < r.length := by omega
  have HSL := hide (startR_length nr r hrl)
  unfold CodePost at HP
  rw [g.check, codeS_good g] at HP
  clear g
  go_enter Tryz.func66, Tryz.ntmps66
  go_wp2_with (first
    | (go_at_call 47; ((with_reducible refine (HP.out).mono ?_); rintro e w1 ⟨a1, c1, rfl, hown1, hb1⟩; have hbx := (Blk.new w 24 #[.int .i64 nr, .slice a f.flat.length c]).belowN hb1; obtain ⟨p0, p1, p2, p3⟩ := hbx.c2))
    | (at_make; refine wpList_mk tyU0 (B := w.heap.size) (n := nr) rfl rfl rfl rfl rfl rfl (by have := hb1.size; simp at this; omega) (by omega) ?_; intro w2 hown2 hg2)
    | (refine wpList_copyIn Tryz.underlying46 (by kernel_rfl) rfl rfl rfl rfl (by simp) rfl (by simpa using hrl) hown2 ((hr1.belowN hb1).grown hg2 (fun _ => .inr rfl)) ?_; intro w3 hown3 hg3))
  go_ret3
  have hs1 := hb1.size
  simp only [World.size_alloc] at hs1
  unfold BegPost
  have hst : startR nr r = r ++ (List.replicate nr (0 : UInt64)).drop r.length := by unfold startR; rw [List.drop_replicate]
  refine ⟨a1, c1, w1.heap.size, nr, ?_, ((hown1.mono (by simp)).belowN (below_of_grown hg2)).grown hg3 ?_, ?_, ?_, ?_⟩
  · rw [Int.toNat_natCast, HSL.out]; rfl
  · refine .inr fun e => ?_
    have := (hown1.blk _ e).2
    omega
  · rw [Int.toNat_natCast, hst]; exact hown3
  · intro e
    have := (hown1.blk _ e).2
    omega
  · exact Below.grown (Below.grown (hb0.trans (hb1.mono hb0.size)) hg2 (by omega) (fun k hk => by cases hk)) hg3 (by have := hg2.size; omega) (fun k hk => by injection hk with hk; omega)
theorem begin_err (regs : Int) (a : Option Addr) (c : Nat) (l : List OpD) (ra : Option Addr) (rc : Nat) (r : List UInt64) (w : World) (h : At w a l) (hl : l.length ≤ 1000000) (hc : dimsS regs l r.length ≠ 0) :
    Calls Tryz.prog 66 #[.agg #[.int .i64 regs, .slice a l.length c], .slice ra r.length rc] w fun e w' => e = .returned (.tuple #[.slice none 0 0, .slice none 0 0, .int .i64 (dimsS regs l r.length)]) ∧ Below w.heap.size w w' := by
  by_cases h0 : checkS regs l = 0
  · obtain ⟨f, rfl, g⟩ := good_of_check h0
    have hn : regs < (r.length : Int) := by
      rcases Int.lt_or_le regs r.length with h1 | h1
      · exact h1
      · exact absurd (dims_of_good g h1) hc
    have e : dimsS regs f.flat r.length = 10 := by unfold dimsS; rw [if_neg (by simpa using h0), if_pos hn]
    rw [e]
    exact begin_dims regs a c f g ra rc r w h hn
  · have e : dimsS regs l r.length = checkS regs l := by unfold dimsS; rw [if_pos h0]
    rw [e]
    exact begin_bad regs a c l ra rc r w h hl h0
end Go.Proofs.YtcamcnahkdiefaaGreat

/- Chapter 13: Run, Upto, Last. -/
namespace Go.Proofs.YtcamcnahkdiefaaGreat
set_option linter.unusedVariables false
set_option linter.unusedSimpArgs false
open Go.RowKit

def RunPost (regs : Int) (l : List OpD) (r : List UInt64) (m : Int) (w : World) (e : Ending) (w' : World) : Prop :=
  ∃ a c, e = .returned (.tuple #[.slice a (uptoS regs l r m).length c, .int .i64 (dimsS regs l r.length)]) ∧ Own w' w.heap.size 50 a c (uptoS regs l r m) ∧ Below w.heap.size w w'
theorem below_turned {F : List Nat} {w w1 w' : World} {B : Nat} (hb : Below B w w1) (hT : Turned F w1 w') (hF : ∀ b ∈ F, B ≤ b) (hB : B ≤ w1.heap.size) : Below B w w' :=
  hb.trans ⟨hT.os, hT.tape, hT.output, hT.size, fun k hk => hT.block k (by omega) (fun hm => by have := hF k hm; omega)⟩

theorem Run1_calls (i : Nat) (x : OpD) (w : World) : Calls Tryz.prog 68 #[.int .i64 (i : Int), .agg #[.int .i64 x.kind, .int .i64 x.d, .int .i64 x.a, .int .i64 x.b, .int .u64 (x.v.toNat : Int)]] w fun e w' => e = .returned (.tuple #[]) ∧ True ∧ Turned [] w w' := by
  go_enter Tryz.func68, Tryz.ntmps68
  go_wp2
  go_end0
  exact ⟨rfl, trivial, Turned.ofBelow (below_new12 _ _)⟩
set_option maxRecDepth 100000 in
set_option maxHeartbeats 1600000 in
theorem Run_calls (regs : Int) (a : Option Addr) (c : Nat) (l : List OpD) (ra : Option Addr) (rc : Nat) (r : List UInt64) (w : World) (h : At w a l) (hl : l.length ≤ 1000000) (hr : At w ra r) :
    Calls Tryz.prog 32 #[.agg #[.int .i64 regs, .slice a l.length c], .slice ra r.length rc] w (RunPost regs l r (-1) w) := by
  have hb0 := below_new12 w (.cells #[.int .i64 regs, .slice a l.length c] 24)
  have h1 := h.belowN hb0
  have hr1 := hr.belowN hb0
  by_cases hc : dimsS regs l r.length = 0
  · obtain ⟨f, rfl, g, hn⟩ := dims_good hc
    have HU := hide (uptoS_good g hn (-1))
    have HC := hide hc
    have HSL := hide (show ((startR regs.toNat r).length : Int) = regs by rw [startR_length _ _ (by omega)]; have := g.r1; omega)
    have HB := hide (begin_good regs a c f g ra rc r _ h1 hr1 hn)
    have HX := hide fun ac cc gr cr B w2 hc2 hcb hr2 hrl => execRun_calls (fun _ _ => True) [] regs f g ac cc gr cr B (-1) (startR regs.toNat r) w2 hc2 hcb hr2 hrl trivial (fun _ _ _ _ _ _ => trivial) (fun b hb => by cases hb) (fun i x W _ _ => Run1_calls i x W)
    unfold BegPost at HB
    clear hc
    go_enter Tryz.func32, Tryz.ntmps32
    go_wp2_with (first
      | (go_at_call 66; ((with_reducible refine (HB.out).mono ?_); rintro e w1 ⟨a1, c1, g1, cr1, rfl, hown1, hown2, hne1, hb1⟩))
      | (go_at_call 67; go_must ((with_reducible refine (HX.out _ _ _ _ _ _ hown1.at_ (fun _ q hq => ⟨fun e => absurd (by rw [hq, e]) hne1, by simp⟩) hown2 HSL.out).mono ?_); rintro e w2 ⟨rfl, hown3, _, hT⟩)))
    go_ret2
    have hs1 := hb1.size
    simp only [World.size_alloc] at hs1
    unfold RunPost
    rw [HU.out, HC.out]
    refine ⟨some ⟨g1, 0, none⟩, cr1, ?_, hown3.mono (by simp), below_turned (hb0.trans (hb1.mono hb0.size)) hT (fun b hb => by simp at hb; subst hb; have := (hown2.blk _ rfl).1; simp at this; omega) (by omega)⟩
    rw [runR_length]; rfl
  · have HU := hide (uptoS_bad hc (-1))
    have HB := hide (begin_err regs a c l ra rc r _ h1 hl hc)
    obtain ⟨E, hE⟩ : ∃ E, E = dimsS regs l r.length := ⟨_, rfl⟩
    unfold RunPost
    rw [← hE] at HB hc ⊢
    have e1 : (E == 0) = false := by simpa using hc
    have e2 : (E != 0) = true := by simpa using hc
    clear hE hc
    go_enter Tryz.func32, Tryz.ntmps32
    go_wp2_with (go_at_call 66; ((with_reducible refine (HB.out).mono ?_); rintro e w1 ⟨rfl, hb1⟩))
    go_ret2
    rw [HU.out]
    exact ⟨none, 0, rfl, Own.none _ _ _, hb0.trans (hb1.mono hb0.size)⟩
end Go.Proofs.YtcamcnahkdiefaaGreat

/- Chapter 13: Last. -/
namespace Go.Proofs.YtcamcnahkdiefaaGreat
set_option linter.unusedVariables false
set_option linter.unusedSimpArgs false
open Go.RowKit

end Go.Proofs.YtcamcnahkdiefaaGreat

/- Plain facts on tapes: what a run has written so far, what has been taken back so far; the machine's steps back. No program is named here. -/
namespace Go.Proofs.YtcamcnahkdiefaaGreat
set_option linter.unusedVariables false
set_option linter.unusedSimpArgs false
open Go.RowKit

/-- a tape, as far as it is written -/
def tpR (P : List OpD) (r t : List UInt64) : List UInt64 := tapeR P r ++ t.drop P.length
/-! ### The machine's steps back -/
end Go.Proofs.YtcamcnahkdiefaaGreat

/- Chapter 21: the machine that runs and keeps. -/
namespace Go.Proofs.YtcamcnahkdiefaaGreat
set_option linter.unusedVariables false
set_option linter.unusedSimpArgs false
open Go.RowKit

/-- the block of a slice, if there is one -/
def blkL (a : Option Addr) : List Nat := (a.map (·.block)).toList
/-- Where the machine stands when `N` steps are to come. -/
def TxJ (code : List (OpD × Int)) (steps : List Tk) (ac : Option Addr) (cc gr nr cr : Nat) (ta : Option Addr) (nt ct Br Bt Bl : Nat) (r0 t0 : List UInt64) (W : World) (N : Nat) (a' : Act) (wr : World) : Prop :=
  ∃ (pre rest : List Tk) (p d k : Nat) (st : List UInt64), a'.defers = [] ∧ a'.tmps.size = 79 ∧
    a'.tmps.getD 0 undef = .slice ac code.length cc ∧ a'.tmps.getD 1 undef = .slice (some ⟨gr, 0, none⟩) nr cr ∧ a'.tmps.getD 2 undef = .slice ta nt ct ∧ a'.tmps.getD 7 undef = .pointer (some ⟨Bl, 0, none⟩) ∧
    a'.tmps.getD 8 undef = .int .i64 (p : Int) ∧ a'.tmps.getD 9 undef = .int .i64 (k : Int) ∧ a'.tmps.getD 10 undef = .int .i64 (d : Int) ∧
    rest.length = N ∧ p ≤ code.length ∧ k = st.length ∧ k ≤ 8 ∧ Chn code (p, st) rest (code.length, []) ∧ steps = pre ++ rest ∧ d = (wrs (pre.map (·.op))).length ∧ d ≤ 1200000 ∧
    LeftAt wr Bl st ∧ Own wr Br 50 (some ⟨gr, 0, none⟩) cr (runR (wrs (pre.map (·.op))) r0) ∧ Own wr Bt 50 ta ct (tpR (wrs (pre.map (·.op))) r0 t0) ∧ Turned (gr :: blkL ta) W wr
theorem TxJ.measure {J : Nat → Act → World → Prop} {N : Nat} {a a' : Act} {w w' : World} (hN : N + 1 = leastOf (fun N => J N a w)) (h : J N a' w') : leastOf (fun N => J N a' w') < leastOf (fun N => J N a w) := by
  have := (leastOf_spec (p := fun N => J N a' w') ⟨N, h⟩).2 N h
  omega

end Go.Proofs.YtcamcnahkdiefaaGreat

/- Chapter 21: ready, Record, Undo. -/
namespace Go.Proofs.YtcamcnahkdiefaaGreat
set_option linter.unusedVariables false
set_option linter.unusedSimpArgs false
open Go.RowKit

theorem Good.sizeW {regs : Int} {f : Fo} (g : Good regs f) : sizeW f.flat = (f.unroll.length : Int) ∧ sizeE f.flat = 0 := by
  obtain ⟨z1, z2, z3, z4⟩ := W9_ok g.ok ⟨g.may, g.few⟩
  exact ⟨by rw [z2, Fo.unroll_length], z1⟩
end Go.Proofs.YtcamcnahkdiefaaGreat

/- Several texts of mine in one file: Sm. -/
/- forward's contracts with their results named; is a program small (layer 13's law)? -/
namespace Go.Proofs.YtcamcnahkdiefaaGreat
set_option linter.unusedVariables false
set_option linter.unusedSimpArgs false
open Go.RowKit

theorem RunN (regs : Int) (a : Option Addr) (c ln : Nat) (l : List OpD) (ra : Option Addr) (rc rn : Nat) (r : List UInt64) (w : World) (X : List UInt64) (E : Int) (hln : ln = l.length) (hrn : rn = r.length) (hX : uptoS regs l r (-1) = X) (hE : dimsS regs l r.length = E)
    (h : At w a l) (hl : ln ≤ 1000000) (hr : At w ra r) (hrl : rn ≤ 1000000) :
    Calls Tryz.prog 32 #[.agg #[.int .i64 regs, .slice a ln c], .slice ra rn rc] w fun e w' => ∃ a' c', e = .returned (.tuple #[.slice a' X.length c', .int .i64 E]) ∧ Own w' w.heap.size 50 a' c' X ∧ Below w.heap.size w w' := by
  subst hln hrn hX hE
  exact Run_calls regs a c l ra rc r w h hl hr 

end Go.Proofs.YtcamcnahkdiefaaGreat

/- Several texts of mine in one file: Du, Do, Dp, Dr, Da. -/
/- Chapters 2, 14: duals: in memory, plain; ref02's walks. -/
namespace Go.Proofs.YtcamcnahkdiefaaGreat
set_option linter.unusedVariables false
set_option linter.unusedSimpArgs false
open Go.RowKit
/-- a dual: its value, its derivative -/
structure DuD where
  v : UInt64
  d : UInt64
  deriving DecidableEq
instance : Flat DuD := ⟨2, fun x => [.int .u64 (x.v.toNat : Int), .int .u64 (x.d.toNat : Int)], fun _ => rfl, fun x u hu => by simp at hu; rcases hu with rfl | rfl <;> rfl, by decide⟩
def DuD.val (x : DuD) : Value := .agg #[.int .u64 (x.v.toNat : Int), .int .u64 (x.d.toNat : Int)]
theorem tyD : Ty Tryz.prog 117 111 DuD := Ty.of (z := .agg #[.int .u64 0, .int .u64 0]) (size := 2) (bytes := 16) Tryz.underlying117 (by kernel_rfl) rfl (by decide) rfl
theorem tyND : TyN Tryz.prog 117 111 (⟨0, 0⟩ : DuD) := TyN.of (z := .agg #[.int .u64 0, .int .u64 0]) (size := 2) (bytes := 16) Tryz.underlying117 (by kernel_rfl) rfl (by decide) rfl
theorem wpList_mkN {P : Program} {ops : Array Oper} {rest : List Oper} {o : Oper} {act : Act} {Q : Exit → Act → World → Prop} {w : World} {T E : TypeId} {α : Type} [Flat α] {z0 : α} (ty : TyN P T E z0) {B n : Nat} {x y : Operand} {k1 k2 : IntKind} {n1 n2 : Int}
    (hgd : o.guard = none) (ho : o.op = .makeSlice T x y) (hx : act.eval x = .int k1 n1) (hy : act.eval y = .int k2 n2) (h1 : n1 = (n : Int)) (h2 : n2 = (n : Int)) (hB : B ≤ w.heap.size) (hn : n ≤ 1000000000)
    (h : ∀ w', Own w' B E (some ⟨w.heap.size, 0, none⟩) n (List.replicate n z0) → w.grownBy w' none → wpList P ops Q rest (act.put o.dst (.slice (some ⟨w.heap.size, 0, none⟩) n n)) w') :
    wpList P ops Q (o :: rest) act w := by
  obtain ⟨i, z, hi, hz, hs, hb, hc⟩ := ty.info
  refine wpList_make_full w hgd x y T ho B E i z (Flat.n α) ty.und hi hz hs k1 k2 n1 n2 n hx hy h1 h2 (Nat.le_trans (Nat.mul_le_mul hb hn) (by decide)) (by simp only [maxLen]; omega) hB fun w' g1 g2 => h w' ?_ g2
  unfold Own
  rw [List.length_replicate]
  have e : (madeCells z.cells (n * Flat.n α)).toList = (List.replicate n z0).flatMap Flat.enc := by
    rw [← zeroCells_flat hc n]
    have hs : z.cells.size = Flat.n α := by rw [← Array.length_toList, hc, Flat.len]
    rw [← hs]
    rfl
  rw [← e]
  exact g1
theorem results_row_D {P : Program} {fn : Func} {p : Tmp} {ty : TypeId} (h : fn.results = #[.cell p ty]) (tmps : Array Value) (w : World) (g : Nat) (t : TypeId) (cs : Array Value) (fr : Nat × Nat) (d : TypeDesc)
    (hp : tmps.getD p undef = .pointer (some ⟨g, 0, none⟩)) (hg : w.heap[g]? = some (.cells cs t fr)) (hu : P.underlying ty = some d) (hd : (match d with | .struct _ | .array _ _ => true | _ => false) = true) (hi : (P.info? ty).map (·.size) = some cs.size) :
    (results fn tmps).run P w = .ok (.agg cs) w := by
  have hp' : tmps[p]?.getD undef = .pointer (some ⟨g, 0, none⟩) := by simpa using hp
  simp only [results, h]
  simp [Sem.run_bind, hp', asAddr, run_loadVar_row w g t ty cs fr d hg hu hd hi, Result.andThen]
def addD (a b : DuD) : DuD := ⟨a.v + b.v, a.d + b.d⟩
def negD (a : DuD) : DuD := ⟨0 - a.v, 0 - a.d⟩
def mulD (a b : DuD) : DuD := ⟨a.v * b.v, a.v * b.d + a.d * b.v⟩
end Go.Proofs.YtcamcnahkdiefaaGreat

/- Chapter 14: what an operation makes of duals (ref14.does). -/
namespace Go.Proofs.YtcamcnahkdiefaaGreat
set_option linter.unusedVariables false
set_option linter.unusedSimpArgs false
open Go.RowKit
def doesD (x : OpD) (a b : DuD) : DuD :=
  if x.kind = 1 then addD a b else if x.kind = 2 then addD a (negD b) else if x.kind = 3 then mulD a b else if x.kind = 4 then negD a else if x.kind = 5 then ⟨x.v, 0⟩ else a
end Go.Proofs.YtcamcnahkdiefaaGreat

/- Runs on duals, plain: a run on duals is a run and a run of tangents. No program is named here. -/
namespace Go.Proofs.YtcamcnahkdiefaaGreat
set_option linter.unusedVariables false
set_option linter.unusedSimpArgs false
open Go.RowKit
def getD14 (r : List DuD) (i : Int) : DuD := (r[i.toNat]?).getD ⟨0, 0⟩
def stepD (r : List DuD) (x : OpD) : List DuD := r.set x.d.toNat (doesD x (getD14 r x.a) (getD14 r x.b))
def runD (l : List OpD) (r : List DuD) : List DuD := l.foldl stepD r
theorem stepD_length (r : List DuD) (x : OpD) : (stepD r x).length = r.length := by simp [stepD]
theorem runD_length (l : List OpD) (r : List DuD) : (runD l r).length = r.length := by
  induction l generalizing r with
  | nil => rfl
  | cons x l ih => show (runD l (stepD r x)).length = _; rw [ih, stepD_length]
theorem runD_append (a b : List OpD) (r : List DuD) : runD (a ++ b) r = runD b (runD a r) := List.foldl_append ..
theorem doesD_eq (x : OpD) (a b : DuD) (h1 : 1 ≤ x.kind) (h2 : x.kind ≤ 6) : doesD x a b = ⟨applyU x a.v b.v, (partU x a.v b.v).1 * a.d + (partU x a.v b.v).2 * b.d⟩ := by
  obtain ⟨k, d, xa, xb, v⟩ := x
  obtain ⟨av, ad⟩ := a
  obtain ⟨bv, bd⟩ := b
  simp only at h1 h2
  rcases kind8 k with h | rfl | rfl | rfl | rfl | rfl | rfl | rfl | rfl | h <;> first | omega | (simp [doesD, applyU, partU, addD, negD, mulD]; try grind)
def zipD (r t : List UInt64) : List DuD := List.zipWith DuD.mk r t
theorem zipD_length (r t : List UInt64) (h : r.length = t.length) : (zipD r t).length = r.length := by simp [zipD, h]
theorem getD14_zip (r t : List UInt64) (h : r.length = t.length) (i : Int) : getD14 (zipD r t) i = ⟨getR r i, getR t i⟩ := by
  unfold getD14 zipD getR
  rw [List.getElem?_zipWith]
  by_cases hi : i.toNat < r.length
  · rw [List.getElem?_eq_getElem hi, List.getElem?_eq_getElem (by omega)]; rfl
  · rw [List.getElem?_eq_none (by omega), List.getElem?_eq_none (by omega)]; rfl
theorem zipD_set (r t : List UInt64) (i : Nat) (a b : UInt64) : (zipD r t).set i ⟨a, b⟩ = zipD (r.set i a) (t.set i b) := by
  unfold zipD
  apply List.ext_getElem?
  intro j
  simp only [List.getElem?_set, List.getElem?_zipWith, List.length_zipWith]
  by_cases hij : i = j
  · subst hij
    by_cases h1 : i < r.length
    · by_cases h2 : i < t.length
      · simp [h1, h2]; omega
      · simp [h1, h2]; omega
    · simp [h1]; omega
  · simp [hij]
theorem stepD_zip (x : OpD) (r t : List UInt64) (h : r.length = t.length) (h1 : 1 ≤ x.kind) (h2 : x.kind ≤ 6) : stepD (zipD r t) x = zipD (stepR r x) (stepT x r t) := by
  unfold stepD stepR stepT tanU
  rw [getD14_zip r t h, getD14_zip r t h, doesD_eq x _ _ h1 h2, zipD_set]
theorem runD_zip (l : List OpD) (hl : ∀ x ∈ l, 1 ≤ x.kind ∧ x.kind ≤ 6) (r t : List UInt64) (h : r.length = t.length) : runD l (zipD r t) = zipD (runR l r) (runT l r t) := by
  induction l generalizing r t with
  | nil => rfl
  | cons x l ih =>
    have hx := hl x (by simp)
    show runD l (stepD (zipD r t) x) = zipD (runR l (stepR r x)) (runT l (stepR r x) (stepT x r t))
    rw [stepD_zip x r t h hx.1 hx.2, ih (fun y hy => hl y (by simp [hy])) _ _ (by rw [stepR_length, stepT_length, h])]
theorem zipD_v (r t : List UInt64) (h : r.length = t.length) : (zipD r t).map (·.v) = r := by
  unfold zipD
  induction r generalizing t with
  | nil => rfl
  | cons a r ih =>
    cases t with
    | nil => simp at h
    | cons b t => simp only [List.zipWith_cons_cons, List.map_cons]; rw [ih t (by simpa using h)]
theorem zipD_d (r t : List UInt64) (h : r.length = t.length) : (zipD r t).map (·.d) = t := by
  unfold zipD
  induction r generalizing t with
  | nil => cases t with
    | nil => rfl
    | cons b t => simp at h
  | cons a r ih =>
    cases t with
    | nil => simp at h
    | cons b t => simp only [List.zipWith_cons_cons, List.map_cons]; rw [ih t (by simpa using h)]
theorem Own.setD {w : World} {B : Nat} {E : TypeId} {g c : Nat} {l : List DuD} (h : Own w B E (some ⟨g, 0, .none⟩) c l) {i : Nat} {x : DuD} (hx : l[i]? = some x) (y : DuD) :
    Own ((w.setCell ⟨g, i * 2, .none⟩ (.int .u64 (y.v.toNat : Int))).setCell ⟨g, i * 2 + 1, .none⟩ (.int .u64 (y.d.toNat : Int))) B E (some ⟨g, 0, .none⟩) c (l.set i y) := by
  have hi := (List.getElem?_eq_some_iff.1 hx).1
  have h1 := h.setAt i 0 ⟨y.v, x.d⟩ x (.int .u64 (y.v.toNat : Int)) hx (by decide) rfl
  have h2 := h1.setAt i 1 y ⟨y.v, x.d⟩ (.int .u64 (y.d.toNat : Int)) (by rw [List.getElem?_set, if_pos rfl, if_pos hi]) (by decide) rfl
  rw [List.set_set] at h2
  exact h2
theorem At.getDu {w wr : World} {a : Option Addr} {l : List DuD} (h : At w a l) (hb : Below w.heap.size w wr) {k : Nat} (hk : k < l.length) :
    ∃ b off x, a = some ⟨b, off, none⟩ ∧ Hid (l[k]? = some x) ∧ wr.cell? ⟨b, off + k * 2, none⟩ = some (.int .u64 (x.v.toNat : Int)) ∧ wr.cell? ⟨b, off + k * 2 + 1, none⟩ = some (.int .u64 (x.d.toNat : Int)) := by
  obtain ⟨b, off, x, e, hx, hc⟩ := (h.belowN hb).get hk
  exact ⟨b, off, x, e, hx, hc 0 _ rfl, hc 1 _ rfl⟩
end Go.Proofs.YtcamcnahkdiefaaGreat

/- Chapter 14: ref14.Run. -/
namespace Go.Proofs.YtcamcnahkdiefaaGreat
set_option linter.unusedVariables false
set_option linter.unusedSimpArgs false
open Go.RowKit
def startD (n : Nat) (r : List DuD) : List DuD := r ++ List.replicate (n - r.length) ⟨0, 0⟩
theorem startD_length (n : Nat) (r : List DuD) (h : r.length ≤ n) : (startD n r).length = n := by simp [startD] <;> omega
/-- may duals be handed in? -/
def dualE (regs : Int) (l : List OpD) (rn : Nat) : Int := if checkS regs l ≠ 0 then checkS regs l else if regs < (rn : Int) then 10 else 0
noncomputable def dualR (regs : Int) (l : List OpD) (r : List DuD) : List DuD := if dualE regs l r.length = 0 then runD (unrS regs l) (startD regs.toNat r) else []
theorem dualE_good {regs : Int} {l : List OpD} {rn : Nat} (h : dualE regs l rn = 0) : ∃ f : Fo, l = f.flat ∧ Good regs f ∧ (rn : Int) ≤ regs := by
  unfold dualE at h
  by_cases hc : checkS regs l = 0
  · rw [if_neg (by simpa using hc)] at h
    obtain ⟨f, rfl, g⟩ := good_of_check hc
    by_cases hn : regs < (rn : Int)
    · rw [if_pos hn] at h; cases h
    · exact ⟨f, rfl, g, by omega⟩
  · rw [if_pos hc] at h; exact absurd h hc
theorem dualE_of {regs : Int} {f : Fo} (g : Good regs f) {rn : Nat} (hn : (rn : Int) ≤ regs) : dualE regs f.flat rn = 0 := by
  unfold dualE
  rw [if_neg (by simpa using g.check), if_neg (by omega)]
theorem dualE_dims {regs : Int} {f : Fo} (g : Good regs f) {rn : Nat} (h : regs < (rn : Int)) : dualE regs f.flat rn = 10 := by
  unfold dualE
  rw [if_neg (by simpa using g.check), if_pos h]
theorem dualE_bad {regs : Int} {l : List OpD} {rn : Nat} (hc : checkS regs l ≠ 0) : dualE regs l rn = checkS regs l := by unfold dualE; rw [if_pos hc]
theorem dualR_good {regs : Int} {f : Fo} (g : Good regs f) {r : List DuD} (hn : (r.length : Int) ≤ regs) : dualR regs f.flat r = runD f.unroll (startD regs.toNat r) := by
  unfold dualR
  rw [if_pos (dualE_of g hn), unrS_good g]
theorem dualR_bad {regs : Int} {l : List OpD} {r : List DuD} (h : dualE regs l r.length ≠ 0) : dualR regs l r = [] := by unfold dualR; rw [if_neg h]
end Go.Proofs.YtcamcnahkdiefaaGreat

/- Chapter 14: ref14.Along. -/
namespace Go.Proofs.YtcamcnahkdiefaaGreat
set_option linter.unusedVariables false
set_option linter.unusedSimpArgs false
open Go.RowKit
def ofWords (r : List UInt64) : List DuD := r.map fun x => ⟨x, 0⟩
theorem ofWords_length (r : List UInt64) : (ofWords r).length = r.length := by simp [ofWords]
end Go.Proofs.YtcamcnahkdiefaaGreat

/- Plain: what a run on polynomials is at numbers: a run on numbers, and of the derivatives a run of tangents. -/
namespace Go.Proofs.YtcamcnahkdiefaaGreat
set_option linter.unusedVariables false
set_option linter.unusedSimpArgs false
/-- a derivative at numbers -/
def dvT (xs : List UInt64) (j : Nat) (A : List Tm) : UInt64 := evalT xs (drvT j A)
theorem dvT_lin (xs : List UInt64) (j : Nat) (A : List Tm) : dvT xs j A = lin (drvF j (monR xs)) A := by unfold dvT evalT; exact lin_drv _ _ _
theorem lenT_of_right {va : Int} {l : List Tm} (h : rightL va l = true) : LenT va.toNat l := fun t ht => by
  have := rightT_len (List.all_eq_true.1 h t ht)
  omega
theorem inE_of_right {va : Int} {l : List Tm} (h : rightL va l = true) : ∀ t ∈ l, InE t.2 := fun t ht n hn => by
  have := rightT_in (List.all_eq_true.1 h t ht) n hn
  omega
theorem lin_mkL (F : List Int → UInt64) {va : Int} {M : List Tm} (h : mkE va M = 0) : lin F (mkL va M) = lin F M := by
  obtain ⟨_, e2, e3, _⟩ := mk_ok0 h
  rw [e2, lin_sort F M (lenT_of_right e3)]
theorem lin_negT (F : List Int → UInt64) (A : List Tm) : lin F (negT A) = 0 - lin F A := by
  induction A with
  | nil => simp [negT, lin]
  | cons t A ih =>
    have e : negT (t :: A) = (0 - t.1, t.2) :: negT A := rfl
    rw [e, lin, lin, ih]
    grind
theorem monR_zero : ∀ (xs : List UInt64) (n : Nat), monR xs (List.replicate n 0) = 1
  | [], n => by cases n <;> rfl
  | x :: xs, 0 => rfl
  | x :: xs, n + 1 => by
    rw [List.replicate_succ, monR, monR_zero xs n]
    simp
theorem monR_unit : ∀ (xs : List UInt64) (i : Nat) (x : UInt64), xs[i]? = some x → monR xs ((List.replicate xs.length (0 : Int)).set i 1) = x
  | [], i, x, h => by simp at h
  | y :: xs, 0, x, h => by
    simp at h
    subst h
    rw [List.length_cons, List.replicate_succ, List.set_cons_zero, monR, monR_zero]
    have e : y ^ (1 : Int).toNat = y := by show y ^ 1 = y; grind
    rw [e]
    grind
  | y :: xs, i + 1, x, h => by
    rw [List.length_cons, List.replicate_succ, List.set_cons_succ, monR, monR_unit xs i x (by simpa using h)]
    simp
theorem drvF_mon (xs : List UInt64) (j : Nat) {e f : List Int} (he : InE e) (hf : InE f) (hl : e.length = f.length) : drvF j (fun e' => monR xs (zipE e' f)) e = drvF j (monR xs) e * monR xs f := by
  unfold drvF
  split
  · rename_i h0
    have hs : InE (e.set j (e.getD j 0 - 1)) := fun n hn => by
      have h1 := he.getD j
      rcases List.mem_or_eq_of_mem_set hn with h2 | h2
      · exact he n h2
      · have hm : e.getD j 0 ∈ e := by
          by_cases hj : j < e.length
          · rw [List.getD_eq_getElem?_getD, List.getElem?_eq_getElem hj]; exact List.getElem_mem hj
          · rw [List.getD_eq_getElem?_getD, List.getElem?_eq_none (by omega)] at h0; simp at h0
        have := he _ hm
        subst h2
        unfold InE at he
        have h3 := he _ hm
        omega
    show UInt64.ofNat (e.getD j 0).toNat * monR xs (zipE (e.set j (e.getD j 0 - 1)) f) = _
    rw [monR_zip xs hs hf (by rw [List.length_set]; exact hl)]
    grind
  · grind
theorem drvF_mon2 (xs : List UInt64) (j : Nat) {e f : List Int} (he : InE e) (hf : InE f) (hl : e.length = f.length) (hj : j < e.length) : drvF j (monR xs) (zipE e f) = drvF j (monR xs) e * monR xs f + monR xs e * drvF j (monR xs) f := by
  rw [drvF_zip (monR xs) j he hf hj (by omega), drvF_mon xs j he hf hl]
  have e1 : drvF j (fun f' => monR xs (zipE e f')) f = drvF j (monR xs) f * monR xs e := by
    have : (fun f' => monR xs (zipE e f')) = fun f' => monR xs (zipE f' e) := by funext f'; rw [zip_comm]
    rw [this]
    exact drvF_mon xs j hf he hl.symm
  rw [e1]
  grind
theorem dv_mul (xs : List UInt64) {j n : Nat} (hj : j < n) {A B : List Tm} (hA : LenT n A) (hB : LenT n B) (iA : ∀ t ∈ A, InE t.2) (iB : ∀ t ∈ B, InE t.2) :
    lin (drvF j (monR xs)) (mulT A B) = lin (drvF j (monR xs)) A * lin (monR xs) B + lin (monR xs) A * lin (drvF j (monR xs)) B := by
  rw [lin_mul]
  have h1 : lin (fun e => lin (fun f => drvF j (monR xs) (zipE e f)) B) A = lin (fun e => drvF j (monR xs) e * lin (monR xs) B + monR xs e * lin (drvF j (monR xs)) B) A := by
    refine lin_congr fun t ht => ?_
    have h2 : lin (fun f => drvF j (monR xs) (zipE t.2 f)) B = lin (fun f => drvF j (monR xs) t.2 * monR xs f + monR xs t.2 * drvF j (monR xs) f) B := by
      refine lin_congr fun s hs => ?_
      exact drvF_mon2 xs j (iA t ht) (iB s hs) (by rw [hA t ht, hB s hs]) (by rw [hA t ht]; exact hj)
    rw [h2, lin_add, lin_scale, lin_scale]
  rw [h1, lin_add (fun e => drvF j (monR xs) e * lin (monR xs) B) (fun e => monR xs e * lin (drvF j (monR xs)) B), lin_scaleR, lin_scaleR]
/-- one operation: at numbers, and its derivative -/
theorem sym_lin (xs : List UInt64) {va k : Int} {v : UInt64} {A B : List Tm} (hA : checkP va A = true) (hB : checkP va B = true) (hk : 1 ≤ k ∧ k ≤ 6) (h : symE va k v A B = 0) (d a b : Int) {j : Nat} (hj : (j : Int) < va) :
    evalT xs (symL va k v A B) = applyU ⟨k, d, a, b, v⟩ (evalT xs A) (evalT xs B) ∧
    dvT xs j (symL va k v A B) = (partU ⟨k, d, a, b, v⟩ (evalT xs A) (evalT xs B)).1 * dvT xs j A + (partU ⟨k, d, a, b, v⟩ (evalT xs A) (evalT xs B)).2 * dvT xs j B := by
  have oA := checkP_ok hA
  have oB := checkP_ok hB
  have hc : k = 1 ∨ k = 2 ∨ k = 3 ∨ k = 4 ∨ k = 5 ∨ k = 6 := by omega
  simp only [dvT_lin]
  unfold evalT
  rcases hc with rfl | rfl | rfl | rfl | rfl | rfl
  · have h' : mkE va (A ++ B) = 0 := h
    have e : symL va 1 v A B = mkL va (A ++ B) := rfl
    rw [e]
    simp only [lin_mkL _ h', lin_append, applyU, partU, if_true]
    exact ⟨trivial, by grind⟩
  · have h' : mkE va (A ++ sortT (negT B)) = 0 := h
    have e : symL va 2 v A B = mkL va (A ++ sortT (negT B)) := rfl
    have hn : LenT va.toNat (negT B) := lenT_of_right (negT_right oB.right)
    rw [e]
    simp only [lin_mkL _ h', lin_append, lin_sort _ _ hn, lin_negT, applyU, partU]
    simp
    exact ⟨by grind, by grind⟩
  · have h0 : mulE va A B = 0 := h
    have hr : rightL va (mulT A B) = true := by
      unfold mulE at h0
      split at h0
      · assumption
      · cases h0
    have h' : mkE va (mulT A B) = 0 := by unfold mulE at h0; rw [if_pos hr] at h0; exact h0
    have e : symL va 3 v A B = mkL va (mulT A B) := by
      have : symL va 3 v A B = mulL va A B := rfl
      rw [this]; unfold mulL; rw [if_pos hr]
    have lA := lenT_of_right oA.right
    have lB := lenT_of_right oB.right
    have iA := inE_of_right oA.right
    have iB := inE_of_right oB.right
    have em := eval_mul xs lA lB iA iB
    unfold evalT at em
    rw [e]
    simp only [lin_mkL _ h', em, dv_mul xs (j := j) (n := va.toNat) (by omega) lA lB iA iB, applyU, partU]
    simp
    grind
  · have h' : mkE va (negT A) = 0 := h
    have e : symL va 4 v A B = mkL va (negT A) := rfl
    rw [e]
    simp only [lin_mkL _ h', lin_negT, applyU, partU]
    simp
    grind
  · have h' : mkE va (constT va v) = 0 := h
    have e : symL va 5 v A B = mkL va (constT va v) := rfl
    rw [e]
    rw [lin_mkL _ h', lin_mkL _ h']
    simp only [constT, lin, monR_zero, applyU, partU]
    have hz : drvF j (monR xs) (List.replicate va.toNat 0) = 0 := by
      unfold drvF
      rw [if_neg]
      rw [List.getD_eq_getElem?_getD, List.getElem?_replicate]
      split <;> simp
    rw [hz]
    simp
  · have e : symL va 6 v A B = A := rfl
    rw [e]
    simp [applyU, partU]
theorem getR_map (f : List Tm → UInt64) {r : List (List Tm)} {a : Int} (h : a.toNat < r.length) : getR (r.map f) a = f (r.getD a.toNat []) := by
  unfold getR
  rw [List.getElem?_map, List.getElem?_eq_getElem h, List.getD_eq_getElem?_getD, List.getElem?_eq_getElem h]
  rfl
/-- a run on polynomials, at numbers -/
theorem runS_lin (xs : List UInt64) {va : Int} {j : Nat} (hj : (j : Int) < va) : ∀ (l : List OpD) (r R : List (List Tm)), (∀ x ∈ l, (1 ≤ x.kind ∧ x.kind ≤ 6) ∧ x.a.toNat < r.length ∧ x.b.toNat < r.length) → AllP va r → runS va l r = (0, R) →
    R.map (evalT xs) = runR l (r.map (evalT xs)) ∧ R.map (dvT xs j) = runT l (r.map (evalT xs)) (r.map (dvT xs j))
  | [], r, R, _, _, h => by
    simp only [runS, Prod.mk.injEq] at h
    rw [← h.2]
    exact ⟨rfl, rfl⟩
  | x :: l, r, R, hx, hA, h => by
    obtain ⟨hk, ha, hb⟩ := hx x List.mem_cons_self
    rw [runS] at h
    split at h
    · rename_i h0
      have hcA := hA.get (k := x.a.toNat) ha
      have hcB := hA.get (k := x.b.toNat) hb
      obtain ⟨s1, s2⟩ := sym_lin xs hcA hcB hk h0 x.d x.a x.b hj
      obtain ⟨i1, i2⟩ := runS_lin xs hj l _ R (fun y hy => by rw [List.length_set]; exact hx y (List.mem_cons_of_mem _ hy)) (hA.set (sym_fine hcA h0).2 _) h
      rw [i1, i2, List.map_set, List.map_set, s1, s2]
      have e1 : runR (x :: l) (r.map (evalT xs)) = runR l (stepR (r.map (evalT xs)) x) := rfl
      have e2 : runT (x :: l) (r.map (evalT xs)) (r.map (dvT xs j)) = runT l (stepR (r.map (evalT xs)) x) (stepT x (r.map (evalT xs)) (r.map (dvT xs j))) := rfl
      rw [e1, e2]
      unfold stepT tanU stepR
      rw [getR_map _ ha, getR_map _ hb, getR_map _ ha, getR_map _ hb]
      exact ⟨rfl, rfl⟩
    · rename_i h0
      simp only [Prod.mk.injEq] at h
      exact absurd h.1 h0
/-- a variable at numbers -/
theorem var_lin (xs : List UInt64) {i : Nat} {x : UInt64} (hi : xs[i]? = some x) (j : Nat) : evalT xs (varT (xs.length : Int) (i : Int)) = x ∧ dvT xs j (varT (xs.length : Int) (i : Int)) = if i = j then 1 else 0 := by
  have hlt := (List.getElem?_eq_some_iff.1 hi).1
  rw [dvT_lin]
  unfold evalT varT
  simp only [lin, Int.toNat_natCast, monR_unit xs i x hi]
  refine ⟨by grind, ?_⟩
  unfold drvF
  have hg : ((List.replicate xs.length (0 : Int)).set i 1).getD j 0 = if i = j then 1 else 0 := by
    rw [List.getD_eq_getElem?_getD, List.getElem?_set]
    split
    · rename_i e
      subst e
      simp [hlt]
    · rw [List.getElem?_replicate]
      split <;> rfl
  rw [hg]
  by_cases e : i = j
  · subst e
    simp only [if_true]
    have hs : ((List.replicate xs.length (0 : Int)).set i 1).set i (1 - 1) = List.replicate xs.length 0 := by
      rw [List.set_set]
      apply List.ext_getElem?
      intro k
      rw [List.getElem?_set, List.getElem?_replicate]
      by_cases hk : i = k
      · subst hk; simp [hlt]
      · simp [hk]
    rw [hs, monR_zero]
    simp
  · simp [e]
end Go.Proofs.YtcamcnahkdiefaaGreat
