/- append of so many noughts: append(s, make([]T, n)...), onto a slice of the call's own. -/
import Derived.Lib.AppendZeros
import Derived.Test.YtmmepffdjmpblaaGreatQa
namespace Go.Proofs.YtmmepffdjmpblaaGreat
set_option linter.unusedVariables false
set_option linter.unusedSimpArgs false
open Go.RowKit
section
variable {P : Program} (w : World)
theorem run_append_room_z (t tn ty e : TypeId) (i : TypeInfo) (z : Value) (k kn : IntKind) (ht : P.underlying t = some (.slice e)) (htn : P.underlying tn = some (.int kn)) (hi : P.info? e = some i) (hz : i.zero = some z)
    (g sLen sCap : Nat) (cur : Array Value) (hg : w.heap[g]? = some (.cells cur e (0, 0))) (m : Nat) (hs : 0 < i.size) (hl : (Builtin.zeroCells z.cells m).size = m * i.size) (h1 : ∀ u ∈ (Builtin.zeroCells z.cells m).toList, u.oneCell' = true)
    (hroom : sLen + m ≤ sCap) (hfit : sLen * i.size + m * i.size ≤ cur.size) (h63 : (m : Int) ≤ 9223372036854775807) (h48 : m * i.bytes ≤ 281474976710656) :
    (Builtin.append_ #[t, tn] ty #[.slice (some ⟨g, 0, none⟩) sLen sCap, .int k m]).run P w =
      .ok (.slice (some ⟨g, 0, none⟩) (sLen + m) sCap) (w.setRow g (cur.toList.take (sLen * i.size) ++ (Builtin.zeroCells z.cells m).toList ++ cur.toList.drop (sLen * i.size + m * i.size)).toArray) := by
  have hst := run_storeCells_at P g (sLen * i.size) e (Builtin.zeroCells z.cells m).toList 0 cur w hg (by rw [Array.length_toList, hl]; simpa using hfit) h1
  simp only [Nat.add_zero, Array.length_toList, hl] at hst
  have hw : IntKind.i64.wrap (m : Int) = m := by rw [IntKind.wrap_i64]; omega
  have hneg : ¬ ((m : Int) < 0) := by omega
  have h48i : ¬ (281474976710656 < (m : Int) * (i.bytes : Int)) := by
    rw [← Int.natCast_mul]
    omega
  by_cases hm : m = 0
  · subst hm
    have h0 : Builtin.zeroCells z.cells 0 = #[] := by simp [Builtin.zeroCells]
    rw [h0] at hst ⊢
    have hw0 : IntKind.i64.wrap 0 = 0 := by rw [IntKind.wrap_i64]; rfl
    have hr0 : sLen ≤ sCap := by omega
    simp [Builtin.append_, run_underlying ht, run_underlying htn, sizeOf, typeInfo, hi, asInt, asIntOf, hw0, hr0, Addr.add_lit]
    have hst2 : (storeCells ⟨g, sLen * i.size, none⟩ []).run P w = .ok () (w.setRow g cur) := by simpa using hst
    rw [hst2]
    rfl
  · have hns : ¬ (m * i.size = 0) := Nat.mul_ne_zero hm (by omega)
    simp [Builtin.append_, run_underlying ht, run_underlying htn, sizeOf, typeInfo, zeroValue, hi, hz, asInt, asIntOf, hw, hneg, h48i, hns, hm, hroom, Addr.add_lit, hst]
theorem run_append_grow_z (t tn ty e : TypeId) (i : TypeInfo) (z : Value) (k kn : IntKind) (ht : P.underlying t = some (.slice e)) (htn : P.underlying tn = some (.int kn)) (hi : P.info? e = some i) (hz : i.zero = some z)
    (b : Addr) (sLen sCap : Nat) (olds : List Value) (hlo : olds.length = sLen * i.size) (holds : ∀ j v, olds[j]? = some v → w.cell? (b.add j) = some v) (n : Nat) (hs : 0 < i.size)
    (hg : sCap < sLen + n) (hsc : sLen ≤ sCap) (h63 : ((sLen + n : Nat) : Int) ≤ 9223372036854775807) (h48 : n * i.bytes ≤ 281474976710656) (hfit : Builtin.nextslicecap (sLen + n) sCap * i.bytes ≤ 281474976710656) :
    (Builtin.append_ #[t, tn] ty #[.slice (some b) sLen sCap, .int k n]).run P w =
      .ok (.slice (some ⟨w.heap.size, 0, none⟩) (sLen + n) (grownCap w (sLen + n) sCap e))
        (w.drew.alloc (.cells (olds.toArray ++ Builtin.zeroCells z.cells n ++ Builtin.zeroCells z.cells (grownCap w (sLen + n) sCap e - (sLen + n))) e)) := by
  have hn : ¬ (sLen + n ≤ sCap) := by omega
  have h63' : ¬ (9223372036854775807 < ((sLen : Int) + (n : Int))) := by omega
  have h48' : ¬ (281474976710656 < Builtin.nextslicecap (sLen + n) sCap * i.bytes) := by omega
  have hw : IntKind.i64.wrap (n : Int) = n := by rw [IntKind.wrap_i64]; omega
  have hneg : ¬ ((n : Int) < 0) := by omega
  have h48i : ¬ (281474976710656 < (n : Int) * (i.bytes : Int)) := by
    rw [← Int.natCast_mul]
    omega
  have hm : n ≠ 0 := by omega
  have hns : ¬ (n * i.size = 0) := Nat.mul_ne_zero hm (by omega)
  have hfo := run_firstCells_some (P := P) w.drew i.size sLen b sLen sCap olds hlo (by simpa using holds)
  simp [Builtin.append_, run_underlying ht, run_underlying htn, sizeOf, typeInfo, zeroValue, hi, hz, asInt, asIntOf, hw, hneg, h48i, hm, hns, hn, h63', h48', Question.forced, hfo, newRow, grownCap]
  try (congr 2; apply Array.ext'; simp [List.append_assoc])
end
section
variable {P : Program} {α : Type} [Flat α]
theorem zeroCells_flat {z : Value} {z0 : α} (h : z.cells.toList = Flat.enc z0) (n : Nat) : (Builtin.zeroCells z.cells n).toList = (List.replicate n z0).flatMap Flat.enc := by
  have hs : z.cells.size = Flat.n α := by rw [← Array.length_toList, h, Flat.len]
  apply List.ext_getElem?
  intro j
  have hp : 0 < Flat.n α := Flat.pos
  have hsz : (Builtin.zeroCells z.cells n).size = n * Flat.n α := by rw [size_zeroCells, hs]
  by_cases hj : j < n * Flat.n α
  · have hd : j / Flat.n α < n := (Nat.div_lt_iff_lt_mul hp).2 hj
    have hf : j % Flat.n α < Flat.n α := Nat.mod_lt _ hp
    have hg : (Flat.enc z0)[j % Flat.n α]? = some ((Flat.enc z0)[j % Flat.n α]'(by rw [Flat.len]; exact hf)) := List.getElem?_eq_getElem _
    have h2 := enc_flat (List.replicate n z0) (j / Flat.n α) z0 (by rw [List.getElem?_replicate, if_pos hd]) (j % Flat.n α) _ hg
    rw [show j / Flat.n α * Flat.n α + j % Flat.n α = j by rw [Nat.mul_comm]; exact Nat.div_add_mod j _] at h2
    rw [h2, Array.getElem?_toList, Array.getElem?_eq_getElem (by omega)]
    congr 1
    simp only [Builtin.zeroCells, Array.getElem_map, Array.getElem_range, hs]
    rw [getElem!_pos _ _ (by rw [hs]; exact hf)]
    have : z.cells[j % Flat.n α]'(by rw [hs]; exact hf) = z.cells.toList[j % Flat.n α]'(by rw [Array.length_toList, hs]; exact hf) := by simp
    rw [this]
    congr 1
  · rw [List.getElem?_eq_none (by rw [Array.length_toList]; omega), List.getElem?_eq_none (by rw [enc_length, List.length_replicate]; omega)]
/-- A slice type, its elements' row, its elements' nought. -/
structure TyN (P : Program) (T E : TypeId) (z0 : α) : Prop where
  und : P.underlying T = some (.slice E)
  info : ∃ i z, P.info? E = some i ∧ i.zero = some z ∧ i.size = Flat.n α ∧ i.bytes ≤ 128 ∧ z.cells.toList = Flat.enc z0
theorem run_append_zeros {w : World} {T E Tn : TypeId} {z0 : α} (ty : TyN P T E z0) {kn : IntKind} (htn : P.underlying Tn = some (.int kn)) {B : Nat} {a : Option Addr} {c : Nat} {l : List α} (own : Own w B E a c l) (m : Nat) (k : IntKind) (t0 : TypeId)
    (hB : B ≤ w.heap.size) (hl : l.length ≤ 1000000000) (hm : m ≤ 1000000000) :
    ∃ a' c' w', (Builtin.append_ #[T, Tn] t0 #[.slice a l.length c, .int k m]).run P w = .ok (.slice a' (l.length + m) c') w' ∧ Own w' B E a' c' (l ++ List.replicate m z0) ∧ w.grownBy w' (a.map (·.block)) ∧
      (a'.map (·.block) = a.map (·.block) ∨ ∃ g, a'.map (·.block) = some g ∧ w.heap.size ≤ g) := by
  obtain ⟨i, z, hi, hz, hsz, hby, hzc⟩ := ty.info
  have hzs : z.cells.size = Flat.n α := by rw [← Array.length_toList, hzc, Flat.len]
  have hp : 0 < i.size := by rw [hsz]; exact Flat.pos
  have hmb : m * i.bytes ≤ 281474976710656 := Nat.le_trans (Nat.mul_le_mul hm hby) (by decide)
  have hlen : (l.flatMap Flat.enc).length = l.length * i.size := by rw [enc_length, hsz]
  have hzl : (Builtin.zeroCells z.cells m).size = m * i.size := by rw [size_zeroCells, hzs, hsz]
  have hLL : (l.flatMap Flat.enc ++ (Builtin.zeroCells z.cells m).toList).length = (l.length + m) * Flat.n α := by
    have hz2 : (Builtin.zeroCells z.cells m).toList.length = m * i.size := by rw [Array.length_toList]; exact hzl
    rw [List.length_append, hlen, hz2, hsz, Nat.add_mul]
  have hnf : (l ++ List.replicate m z0).flatMap Flat.enc = l.flatMap Flat.enc ++ (Builtin.zeroCells z.cells m).toList := by rw [List.flatMap_append, zeroCells_flat hzc]
  have h1 : ∀ u ∈ (Builtin.zeroCells z.cells m).toList, u.oneCell' = true := by rw [zeroCells_flat hzc]; exact enc_one _
  have grown : ∀ (old : Nat), old < l.length + m → ∀ (row : Option Nat),
      Own (w.drew.alloc (.cells ((l.flatMap Flat.enc).toArray ++ Builtin.zeroCells z.cells m ++ Builtin.zeroCells z.cells (grownCap w (l.length + m) old E - (l.length + m))) E)) B E (some ⟨w.heap.size, 0, none⟩) (grownCap w (l.length + m) old E) (l ++ List.replicate m z0) ∧
      w.grownBy (w.drew.alloc (.cells ((l.flatMap Flat.enc).toArray ++ Builtin.zeroCells z.cells m ++ Builtin.zeroCells z.cells (grownCap w (l.length + m) old E - (l.length + m))) E)) row := by
    intro old ho row
    have hge := grownCap_ge w (l.length + m) old E
    have hcm : grownCap w (l.length + m) old E ≤ maxLen := grownCap_le_maxLen w (l.length + m) old E (by simp only [maxLen]; omega)
    refine ⟨?_, ⟨rfl, rfl, rfl, by simp, fun k hk _ => Below.heap_alloc w.drew _ k hk⟩⟩
    unfold Own
    rw [hnf, List.length_append, List.length_replicate]
    refine ⟨hLL, .inr ⟨w.heap.size, _, _, rfl, hB, heap_alloc_new w.drew _, hge, hcm, ?_, ?_⟩⟩
    · simp only [Array.size_append, List.size_toArray, size_zeroCells, hzs, hlen, hsz, ← Nat.add_mul]
      congr 1
      omega
    · simp only [Array.toList_append, List.append_assoc]
      rw [← List.append_assoc]
      rw [← hLL]
      exact List.take_left
  rcases own.2 with ⟨hv, h0⟩ | ⟨g, cap, cur, hv, hbg, hg, hnc, hcm, hcs, htake⟩
  · injection hv with e1 e2 e3
    subst e1 e3
    have hx : l = [] := List.eq_nil_of_length_eq_zero h0
    subst hx
    rcases Nat.eq_zero_or_pos m with rfl | hm0
    · refine ⟨none, 0, w, ?_, by simpa using Own.none w B E, World.grownBy.refl w _, .inl rfl⟩
      have hw0 : IntKind.i64.wrap 0 = 0 := by rw [IntKind.wrap_i64]; rfl
      simp [Builtin.append_, run_underlying ty.und, run_underlying htn, sizeOf, typeInfo, hi, asInt, asIntOf, hw0, Builtin.firstCells]
    · have hr := Lib.run_append_nil_zeros w T Tn t0 E i z k kn ty.und htn hi hz m hm0 hp (by omega) hmb
      have hgr := grown 0 (by simp; omega) none
      simp only [List.length_nil, Nat.zero_add, List.nil_append, List.flatMap_nil, Array.empty_append] at hgr ⊢
      exact ⟨_, _, _, hr, hgr.1, hgr.2, .inr ⟨_, rfl, Nat.le_refl _⟩⟩
  · injection hv with e1 e2 e3
    subst e1 e3
    by_cases hroom : l.length + m ≤ c
    · have hfit : l.length * i.size + m * i.size ≤ cur.size := by rw [hcs, ← Nat.add_mul, hsz]; exact Nat.mul_le_mul_right _ hroom
      have hr := run_append_room_z w T Tn t0 E i z k kn ty.und htn hi hz g l.length c cur hg m hp hzl h1 hroom hfit (by omega) hmb
      refine ⟨_, _, _, hr, ?_, ⟨rfl, rfl, rfl, by simp [World.setRow], fun k _ hk => setRow_other w g k _ (fun e => hk (by simp [e]))⟩, .inl rfl⟩
      unfold Own
      rw [hnf, List.length_append, List.length_replicate]
      refine ⟨hLL, .inr ⟨g, c, _, rfl, hbg, setRow_heap w g cur _ E _ hg, hroom, hcm, ?_, ?_⟩⟩
      · simp only [List.size_toArray, List.length_append, List.length_take, List.length_drop, Array.length_toList, hzl]
        rw [← hcs]; omega
      · rw [hsz, htake]
        rw [← hLL]
        exact List.take_left
    · have holds : ∀ j u, (l.flatMap Flat.enc)[j]? = some u → w.cell? ((⟨g, 0, none⟩ : Addr).add j) = some u := World.ownsRow.cells own (g := g) rfl
      have hr := run_append_grow_z w T Tn t0 E i z k kn ty.und htn hi hz ⟨g, 0, none⟩ l.length c _ hlen holds m hp (by omega) hnc (by omega) hmb (growslice_fits (by omega) (Nat.le_trans (Nat.mul_le_mul (show l.length + m ≤ 2000000000 by omega) hby) (by decide)))
      have hgr := grown c (by omega) (some g)
      exact ⟨_, _, _, hr, hgr.1, hgr.2, .inr ⟨_, rfl, Nat.le_refl _⟩⟩
/-- at a step of a drawn region -/
theorem step_zeros {ops : Array Oper} {o : Oper} {act : Act} {K : Act → World → Prop} {Q : Exit → Act → World → Prop} {E' : Prop} {w : World} {T E Tn : TypeId} {z0 : α} (ty : TyN P T E z0) {kn : IntKind} (htn : P.underlying Tn = some (.int kn)) {B : Nat} {a : Option Addr} {c : Nat} {l : List α} (own : Own w B E a c l) {s x : Operand} (hgd : o.guard = none)
    (ho : o.op = .call { callee := .builtin .append, args := #[s, x], argTypes := #[T, Tn] })
    {n m : Nat} {M : Int} {k : IntKind} (hs : act.eval s = .slice a n c) (hx : act.eval x = .int k M) (hM : M = (m : Int)) (hn : n = l.length) (hB : B ≤ w.heap.size) (hl : n ≤ 1000000000) (hm : m ≤ 1000000000)
    (h : ∀ a' c' w', Own w' B E a' c' (l ++ List.replicate m z0) → w.grownBy w' (a.map (·.block)) → (a'.map (·.block) = a.map (·.block) ∨ ∃ g, a'.map (·.block) = some g ∧ w.heap.size ≤ g) → K (act.put o.dst (.slice a' (n + m) c')) w') :
    if Region.wanted o (yielded ops act.tmps) = true then Oper.wp P o act w K Q else E' := by
  have hw : Region.wanted o (yielded ops act.tmps) = true := by simp [Region.wanted, hgd]
  rw [if_pos hw]
  subst hn hM
  obtain ⟨a', c', w', hr, h1, h2, h3⟩ := run_append_zeros ty htn own m k o.type hB hl hm
  unfold Oper.wp execOp
  simp only [ho, resolve, invoke, builtin, Sem.run_bind, Sem.run_pure, Result.andThen_ok, List.map_toArray, List.map_cons, List.map_nil, hs, hx, hr]
  exact h a' c' w' h1 h2 h3
theorem TyN.of {T E : TypeId} {z0 : α} {z : Value} {size bytes : Nat} (h0 : P.underlying T = some (.slice E)) (h : (P.info? E).map (fun i => (i.zero, i.size, i.bytes)) = some (some z, size, bytes))
    (h1 : size = Flat.n α) (h2 : bytes ≤ 128) (h3 : z.cells.toList = Flat.enc z0) : TyN P T E z0 := by
  obtain ⟨i, hi, hz0, hz1, hz2⟩ := info_parts h
  exact ⟨h0, i, z, hi, hz0, hz1.trans h1, by omega, h3⟩
end
end Go.Proofs.YtmmepffdjmpblaaGreat
