/- Several texts of mine in one file. -/
import Derived.Test.YtcamcnahkdiefaaGreatYMNan
import Derived.Test.YtcamcnahkdiefaaGreatYMNal
import Derived.DeepKeys4
import Derived.Maps.Views
/- Several texts of mine in one file: Syd, Sye, Syf, Syg. -/
/- symbol's map: its keys are structs. -/
namespace Go.Proofs.YtcamcnahkdiefaaGreat
set_option linter.unusedVariables false
set_option linter.unusedSimpArgs false
open Go.RowKit Go.Maps
theorem laidD : laidOutB Tryz.prog = true := by kernel_rfl
theorem wideD : (match Tryz.prog.underlying 206 with | some (.array _ _) | some (.struct _) => true | _ => false) = true := by kernel_rfl
theorem rowD : 206 < Tryz.prog.types.size := of_decide_eq_true (by kernel_rfl)
theorem deepD : Tryz.prog.keyTypeAt 2 206 = true := by kernel_rfl
set_option maxRecDepth 100000 in
theorem lawD : Keyed Tryz.prog 206 := Keyed.of_law (deep_law_laid laidD (m := 2) (by omega) rowD deepD wideD)
abbrev doneV (k a b : Int) (v : UInt64) : Value := .agg #[.int .i64 k, .int .i64 a, .int .i64 b, .int .u64 (v.toNat : Int)]
theorem keyD (k a b : Int) (v : UInt64) (h1 : (Lit.int .i64 k).wf = true) (h2 : (Lit.int .i64 a).wf = true) (h3 : (Lit.int .i64 b).wf = true) : ∃ kl, keyOf Tryz.prog 206 (doneV k a b v) = some kl := by
  have h4 : (Lit.int .u64 (v.toNat : Int)).wf = true := WalkArith.wf_u64 (by have := v.toNat_lt; omega)
  unfold keyOf
  rw [Tryz.underlying206]
  simp only []
  rw [if_pos (by kernel_rfl)]
  obtain ⟨m, hm⟩ : ∃ m, Tryz.prog.types.size + 1 = m + 2 := ⟨Tryz.prog.types.size - 1, by have := rowD; omega⟩
  rw [hm]
  refine ⟨.string (keyBytes [.int .i64 k, .int .i64 a, .int .i64 b, .int .u64 (v.toNat : Int)]), ?_⟩
  have e : Program.keyLits Tryz.prog (m + 2) 206 (Value.cells (doneV k a b v)).toList = some [.int .i64 k, .int .i64 a, .int .i64 b, .int .u64 (v.toNat : Int)] := by
    have c1 : Tryz.prog.cellsOf 206 = 4 := by kernel_rfl
    have c2 : Tryz.prog.cellsOf 3 = 1 := by kernel_rfl
    have c3 : Tryz.prog.cellsOf 50 = 1 := by kernel_rfl
    simp [Program.keyLits, Tryz.underlying206, Tryz.underlying3, Tryz.underlying50, Value.cells, c1, c2, c3, h1, h2, h3, h4]
  rw [e]
  rfl
end Go.Proofs.YtcamcnahkdiefaaGreat

/- symbol.of: a state gets its number. -/
namespace Go.Proofs.YtcamcnahkdiefaaGreat
set_option linter.unusedVariables false
set_option linter.unusedSimpArgs false
open Go.RowKit Go.Maps
theorem results_rowS {P : Program} {fn : Func} {p : Tmp} {ty : TypeId} (h : fn.results = #[.cell p ty]) (tmps : Array Value) (w : World) (g : Nat) (t : TypeId) (cs : Array Value) (fr : Nat × Nat) (d : TypeDesc)
    (hp : tmps.getD p undef = .pointer (some ⟨g, 0, none⟩)) (hg : w.heap[g]? = some (.cells cs t fr)) (hu : P.underlying ty = some d) (hd : (match d with | .struct _ | .array _ _ => true | _ => false) = true) (hi : (P.info? ty).map (·.size) = some cs.size) :
    (results fn tmps).run P w = .ok (.agg cs) w := by
  have hp' : tmps[p]?.getD undef = .pointer (some ⟨g, 0, none⟩) := by simpa using hp
  simp only [results, h]
  simp [Sem.run_bind, hp', asAddr, run_loadVar_row w g t ty cs fr d hg hu hd hi, Result.andThen]
set_option maxRecDepth 100000 in
set_option maxHeartbeats 1600000 in
theorem Of_calls (gb : Nat) (va : Int) (bm : Value) (nx : Nat) (hnx : nx ≤ 100000000) (a : Option Addr) (n c : Nat) (w : World) (hbk : Blk w gb 159 #[.int .i64 va, bm, .int .i64 (nx : Int)]) (pv : Int) :
    Calls Tryz.prog 85 #[.pointer (some ⟨gb, 0, none⟩), .agg #[.int .i64 pv, .slice a n c]] w fun e w' => e = .returned (.agg #[.int .i64 pv, .slice a n c, .int .i64 ((nx + 1 : Nat) : Int)]) ∧ Blk w' gb 159 #[.int .i64 va, bm, .int .i64 ((nx + 1 : Nat) : Int)] ∧ w.grownBy w' (some gb) := by
  have hgb := hbk.lt
  obtain ⟨hX1, hX2, hb0, hz0⟩ := two_boxes w 42 162 #[.int .i64 pv, .slice a n c] #[.int .i64 0, .slice none 0 0, .int .i64 0]
  have hbk0 := hbk.belowN hb0
  obtain ⟨k0, k1, k2, k3, k4, k5⟩ := hbk0.c3
  obtain ⟨p0, p1, p2, p3⟩ := hX1.c2
  have hbk5 := hbk.set_ 2 (.int .i64 ((nx : Int) + 1))
  obtain ⟨m0, m1, m2, m3, m4, m5⟩ := hbk5.c3
  have hsz : (w.setCell ⟨gb, 2, none⟩ (.int .i64 ((nx : Int) + 1))).heap.size = w.heap.size := by simp [World.setCell]
  obtain ⟨hY1, hY2, hb1, hz1⟩ := two_boxes (w.setCell ⟨gb, 2, none⟩ (.int .i64 ((nx : Int) + 1))) 42 162 #[.int .i64 pv, .slice a n c] #[.int .i64 pv, .slice a n c, .int .i64 ((nx : Int) + 1)]
  rw [hsz] at hY2
  have n1 : gb ≠ w.heap.size := by omega
  have n2 : gb ≠ w.heap.size + 1 := by omega
  have n3 : w.heap.size + 1 ≠ gb := by omega
  have n4 : w.heap.size + 1 ≠ w.heap.size := by omega
  go_enter Tryz.func85, Tryz.ntmps85
  go_wp2
  go_region
  go_wp2
  refine bodyPost_ret (results_rowS rfl _ _ (w.heap.size + 1) _ #[.int .i64 pv, .slice a n c, .int .i64 ((nx : Int) + 1)] (0, 0) _ rfl hY2 Tryz.underlying162 rfl (by kernel_rfl)) rfl ?_
  have e1 : ((nx + 1 : Nat) : Int) = (nx : Int) + 1 := by omega
  rw [e1]
  have hg := grown_setCell w gb 2 (.int .i64 ((nx : Int) + 1))
  have hb2 := Below.drew hb1
  have hg2 := grown_of_below hb2 (some gb)
  exact ⟨rfl, hbk5.belowN hb2, hg.trans hg2⟩
end Go.Proofs.YtcamcnahkdiefaaGreat

/- symbol's book: which states are known. -/
namespace Go.Proofs.YtcamcnahkdiefaaGreat
set_option linter.unusedVariables false
set_option linter.unusedSimpArgs false
open Go.RowKit Go.Maps
def heldR (v : Value) : Option (DataW Value × List MemPlace) := some (.held v, [])
abbrev stV (y : StH) : Value := .agg #[.int .i64 y.v, .slice y.a y.n y.c, .int .i64 y.k]
abbrev st0 : Value := .agg #[.int .i64 0, .slice none 0 0, .int .i64 0]
theorem zeroSt (w : World) : (zeroValue 162).run Tryz.prog w = .ok st0 w := by kernel_rfl
structure StOk (P : Nat → Prop) (w : World) (va : Int) (PL : List (List Tm)) (y : StH) (L : List Tm) : Prop where
  v : y.v = va
  t : TOut P w y.a y.n y.c L
  k1 : 1 ≤ y.k
  k2 : PL[(y.k - 1).toNat]? = some L
theorem StOk.grown {P : Nat → Prop} {w w' : World} {va : Int} {PL : List (List Tm)} {y : StH} {L : List Tm} {row : Option Nat} (h : StOk P w va PL y L) (hg : w.grownBy w' row) (hr : ∀ g, row = some g → ¬ P g) : StOk P w' va PL y L := ⟨h.v, h.t.grown hg hr, h.k1, h.k2⟩
theorem StOk.belowN {P : Nat → Prop} {w w' : World} {va : Int} {PL : List (List Tm)} {y : StH} {L : List Tm} (h : StOk P w va PL y L) (hb : Below w.heap.size w w') : StOk P w' va PL y L := ⟨h.v, h.t.belowN hb, h.k1, h.k2⟩
theorem getE_app {α : Type} {l e : List α} {i : Nat} {x : α} (h : l[i]? = some x) : (l ++ e)[i]? = some x := by
  rw [List.getElem?_append_left (List.getElem?_eq_some_iff.1 h).1]; exact h
theorem StOk.more {P : Nat → Prop} {w : World} {va : Int} {PL : List (List Tm)} {y : StH} {L : List Tm} (h : StOk P w va PL y L) (e : List (List Tm)) : StOk P w va (PL ++ e) y L := ⟨h.v, h.t, h.k1, getE_app h.k2⟩
def Known (P : Nat → Prop) (w : World) (va : Int) (PL : List (List Tm)) (D : DataW Value) : Prop :=
  ∀ (k a b : Int) (v : UInt64) (kl : Lit), keyOf Tryz.prog 206 (doneV k a b v) = some kl → has D kl = true → ∃ (y : StH) (L A B : List Tm), (∀ z, D.atKey kl z = .held (stV y)) ∧ StOk P w va PL y L ∧
    (k ≤ 4 → PL[(a - 1).toNat]? = some A) ∧ (k ≤ 3 → PL[(b - 1).toNat]? = some B) ∧ symE va k v A B = 0 ∧ symL va k v A B = L
theorem Known.empty (P : Nat → Prop) (w : World) (va : Int) (PL : List (List Tm)) : Known P w va PL (.map []) := fun k a b v kl _ h => by cases h
theorem Known.grown {P : Nat → Prop} {w w' : World} {va : Int} {PL : List (List Tm)} {D : DataW Value} {row : Option Nat} (h : Known P w va PL D) (hg : w.grownBy w' row) (hr : ∀ g, row = some g → ¬ P g) : Known P w' va PL D := fun k a b v kl h1 h2 => by
  obtain ⟨y, L, A, B, e1, e2, e3, e4, e5, e6⟩ := h k a b v kl h1 h2
  exact ⟨y, L, A, B, e1, e2.grown hg hr, e3, e4, e5, e6⟩
theorem Known.more {P : Nat → Prop} {w : World} {va : Int} {PL : List (List Tm)} {D : DataW Value} (h : Known P w va PL D) (e : List (List Tm)) : Known P w va (PL ++ e) D := fun k a b v kl h1 h2 => by
  obtain ⟨y, L, A, B, e1, e2, e3, e4, e5, e6⟩ := h k a b v kl h1 h2
  exact ⟨y, L, A, B, e1, e2.more e, fun hk => getE_app (e3 hk), fun hk => getE_app (e4 hk), e5, e6⟩
theorem sym_dep {va k : Int} {v : UInt64} {A B A' B' : List Tm} (hA : k ≤ 4 → A = A') (hB : k ≤ 3 → B = B') (hk : k ≤ 5) : symE va k v A B = symE va k v A' B' ∧ symL va k v A B = symL va k v A' B' := by
  by_cases h3 : k ≤ 3
  · rw [hA (by omega), hB h3]; exact ⟨rfl, rfl⟩
  · by_cases h4 : k ≤ 4
    · have e : k = 4 := by omega
      subst e
      rw [hA h4]; exact ⟨rfl, rfl⟩
    · have e : k = 5 := by omega
      subst e
      exact ⟨rfl, rfl⟩
theorem Known.put {P : Nat → Prop} {w : World} {va : Int} {PL : List (List Tm)} {D : DataW Value} (h : Known P w va PL D) (hD : IsMap D) {k a b : Int} {v : UInt64} {kl : Lit} (hkey : keyOf Tryz.prog 206 (doneV k a b v) = some kl) {y : StH} {L A B : List Tm} (hy : StOk P w va PL y L)
    (hA : k ≤ 4 → PL[(a - 1).toNat]? = some A) (hB : k ≤ 3 → PL[(b - 1).toNat]? = some B) (hE : symE va k v A B = 0) (hL : symL va k v A B = L) : Known P w va PL (D.put kl (.held (stV y))) := fun k' a' b' v' kl' h1 h2 => by
  by_cases hk : kl' = kl
  · subst hk
    have e := lawD.inj h1 hkey
    simp only [doneV, Value.agg.injEq, Array.mk.injEq, List.cons.injEq, Value.int.injEq, true_and, and_true] at e
    obtain ⟨rfl, rfl, rfl, e4⟩ := e
    have e5 : v' = v := UInt64.toNat_inj.1 (by omega)
    subst e5
    exact ⟨y, L, A, B, fun z => atKey_put_same hD (lawD.key hkey) _ z, hy, hA, hB, hE, hL⟩
  · rw [has_put_other hk] at h2
    obtain ⟨y', L', A', B', e1, e2⟩ := h k' a' b' v' kl' h1 h2
    exact ⟨y', L', A', B', fun z => by rw [atKey_put_other hk]; exact e1 z, e2⟩
structure BookM (P : Nat → Prop) (w : World) (gb gm : Nat) (va : Int) (PL : List (List Tm)) (D : DataW Value) : Prop where
  blk : Blk w gb 159 #[.int .i64 va, .map (some gm), .int .i64 (PL.length : Int)]
  map : w.ownsMap Tryz.prog 206 heldR gm PL.length D
  known : Known P w va PL D
set_option maxRecDepth 100000 in
theorem book_look {w : World} {gm n : Nat} {D : DataW Value} (hown : w.ownsMap Tryz.prog 206 heldR gm n D) {key : Value} {kl : Lit} (hkey : keyOf Tryz.prog 206 key = some kl) (v : Value) (hv : D.atKey kl (.held st0) = .held v) :
    (Instr.lookup 157 (.map (some gm)) key true).run Tryz.prog w = .ok (.tuple #[v, .bool (has D kl)]) w := by
  obtain ⟨v', ps, hrun, hR⟩ := hown.look_ok lawD Tryz.underlying157 (zeroSt w) (zd := .held st0) (zp := []) rfl hkey
  unfold heldR at hR
  have h1 := congrArg Prod.fst (Option.some.inj hR)
  simp only at h1
  rw [hv] at h1
  have h2 : v' = v := by injection h1
  rw [hrun, h2]
set_option maxRecDepth 100000 in
theorem Known.hit {P : Nat → Prop} {w : World} {va : Int} {PL : List (List Tm)} {D : DataW Value} (h : Known P w va PL D) {k a b : Int} {v : UInt64} {kl : Lit} (hkey : keyOf Tryz.prog 206 (doneV k a b v) = some kl) (hh : has D kl = true) (hk : k ≤ 5) {A B : List Tm}
    (hA : k ≤ 4 → PL[(a - 1).toNat]? = some A) (hB : k ≤ 3 → PL[(b - 1).toNat]? = some B) : ∃ (y : StH) (L : List Tm), (∀ z, D.atKey kl z = .held (stV y)) ∧ StOk P w va PL y L ∧ symE va k v A B = 0 ∧ symL va k v A B = L := by
  obtain ⟨y, L, A', B', e1, e2, e3, e4, e5, e6⟩ := h k a b v kl hkey hh
  obtain ⟨d1, d2⟩ := sym_dep (va := va) (v := v) (A := A') (B := B') (A' := A) (B' := B) (fun hk => Option.some.inj ((e3 hk).symm.trans (hA hk))) (fun hk => Option.some.inj ((e4 hk).symm.trans (hB hk))) hk
  exact ⟨y, L, e1, e2, by rw [← d1]; exact e5, by rw [← d2]; exact e6⟩
theorem at_miss {D : DataW Value} {kl : Lit} (h : has D kl = false) (z : DataW Value) : D.atKey kl z = z := atKey_of_not_has h z
end Go.Proofs.YtcamcnahkdiefaaGreat

/- symbol.do. -/
namespace Go.Proofs.YtcamcnahkdiefaaGreat
set_option linter.unusedVariables false
set_option linter.unusedSimpArgs false
open Go.RowKit Go.Maps
theorem five_boxes (w : World) (T1 T2 T3 T4 T5 : TypeId) (c1 c2 c3 c4 c5 : Array Value) (W : World) (hW : W = ((((w.alloc (.cells c1 T1)).alloc (.cells c2 T2)).alloc (.cells c3 T3)).alloc (.cells c4 T4)).alloc (.cells c5 T5)) : Blk W w.heap.size T1 c1 ∧ Blk W (w.heap.size + 1) T2 c2 ∧
    Blk W (w.heap.size + 1 + 1) T3 c3 ∧ Blk W (w.heap.size + 1 + 1 + 1) T4 c4 ∧ Blk W (w.heap.size + 1 + 1 + 1 + 1) T5 c5 ∧ Below w.heap.size w W ∧ W.heap.size = w.heap.size + 1 + 1 + 1 + 1 + 1 := by
  subst hW
  obtain ⟨h1, h2, h3, h4, hb, hz⟩ := four_boxes w T1 T2 T3 T4 c1 c2 c3 c4
  have h5 := Blk.new ((((w.alloc (.cells c1 T1)).alloc (.cells c2 T2)).alloc (.cells c3 T3)).alloc (.cells c4 T4)) T5 c5
  rw [hz] at h5
  exact ⟨h1.alloc _, h2.alloc _, h3.alloc _, h4.alloc _, h5, hb.alloc (by omega) _, by simp⟩
set_option maxRecDepth 100000 in
set_option maxHeartbeats 3200000 in
theorem Do_hit1 (gb gm : Nat) (d0 a0 b0 : Int) (v : UInt64) (x y z : StH) (va : Int) (n : Nat) (D : DataW Value) (w : World) (nx : Int) (hbk : Blk w gb 159 #[.int .i64 va, .map (some gm), .int .i64 nx]) (hown : w.ownsMap Tryz.prog 206 heldR gm n D) (kl : Lit)
    (hkey : keyOf Tryz.prog 206 (doneV 1 x.k y.k v) = some kl) (hh : has D kl = true) (hz : D.atKey kl (.held st0) = .held (stV z)) :
    Calls Tryz.prog 86 #[.pointer (some ⟨gb, 0, none⟩), .agg #[.int .i64 1, .int .i64 d0, .int .i64 a0, .int .i64 b0, .int .u64 (v.toNat : Int)], stV x, stV y] w fun e w' => e = .returned (.tuple #[stV z, .int .i64 0]) ∧ Below w.heap.size w w' := by
  have hgb := hbk.lt
  have HL : ∀ W', Below w.heap.size w W' → (Instr.lookup 157 (.map (some gm)) (doneV 1 x.k y.k v) true).run Tryz.prog W' = .ok (.tuple #[stV z, .bool true]) W' := fun W' hb => by
    have := book_look (hown.kept (grown_of_below hb none) (by simp)) hkey (stV z) hz
    rw [hh] at this
    exact this
  obtain ⟨W1, hW1⟩ : ∃ W1, W1 = (((((w.alloc (.cells #[.int .i64 1, .int .i64 d0, .int .i64 a0, .int .i64 b0, .int .u64 (v.toNat : Int)] 89)).alloc (.cells #[.int .i64 x.v, .slice x.a x.n x.c, .int .i64 x.k] 162)).alloc (.cells #[.int .i64 y.v, .slice y.a y.n y.c, .int .i64 y.k] 162)).alloc (.cells #[.int .i64 0, .slice none 0 0, .int .i64 0] 162)).alloc (.cells #[.int .i64 1, .int .i64 x.k, .int .i64 y.k, .int .u64 (v.toNat : Int)] 206)) := ⟨_, rfl⟩
  obtain ⟨hX1, hX2, hX3, hX4, hX5, hb0, hz0⟩ := five_boxes w 89 162 162 162 206 #[.int .i64 1, .int .i64 d0, .int .i64 a0, .int .i64 b0, .int .u64 (v.toNat : Int)] #[.int .i64 x.v, .slice x.a x.n x.c, .int .i64 x.k] #[.int .i64 y.v, .slice y.a y.n y.c, .int .i64 y.k] #[.int .i64 0, .slice none 0 0, .int .i64 0] #[.int .i64 1, .int .i64 x.k, .int .i64 y.k, .int .u64 (v.toNat : Int)] W1 hW1
  have hl1 := HL _ (Below.drew (Below.drew hb0))
  have hl2 := HL _ (Below.drew (Below.drew (hb0.trans ((below_box W1 (.cells #[.int .i64 0, .slice none 0 0, .int .i64 0] 162)).mono hb0.size))))
  have hk1 := hbk.belowN hb0
  obtain ⟨k0, k1, k2, k3, k4, k5⟩ := hk1.c3
  obtain ⟨k6, k7, k8, k9, k10, k11⟩ := (hk1.alloc (.cells #[.int .i64 0, .slice none 0 0, .int .i64 0] 162)).c3
  rw [hW1] at hl1 hl2 k0 k1 k2 k6 k7 k8
  have HLL := hide HL
  obtain ⟨W2, hW2⟩ : ∃ W2, W2 = (((((w.alloc (.cells #[.int .i64 1, .int .i64 d0, .int .i64 a0, .int .i64 b0, .int .u64 (v.toNat : Int)] 89)).alloc (.cells #[.int .i64 x.v, .slice x.a x.n x.c, .int .i64 x.k] 162)).alloc (.cells #[.int .i64 y.v, .slice y.a y.n y.c, .int .i64 y.k] 162)).alloc (.cells #[.int .i64 z.v, .slice z.a z.n z.c, .int .i64 z.k] 162)).alloc (.cells #[.int .i64 1, .int .i64 x.k, .int .i64 y.k, .int .u64 (v.toNat : Int)] 206)) := ⟨_, rfl⟩
  obtain ⟨hY1, hY2, hY3, hY4, hY5, hb2, hz2⟩ := five_boxes w 89 162 162 162 206 #[.int .i64 1, .int .i64 d0, .int .i64 a0, .int .i64 b0, .int .u64 (v.toNat : Int)] #[.int .i64 x.v, .slice x.a x.n x.c, .int .i64 x.k] #[.int .i64 y.v, .slice y.a y.n y.c, .int .i64 y.k] #[.int .i64 z.v, .slice z.a z.n z.c, .int .i64 z.k] #[.int .i64 1, .int .i64 x.k, .int .i64 y.k, .int .u64 (v.toNat : Int)] W2 hW2
  have hZ4 := hY4.alloc (.cells #[.int .i64 z.v, .slice z.a z.n z.c, .int .i64 z.k] 162)
  have hbZ := Below.drew (Below.drew (hb2.trans ((below_box W2 (.cells #[.int .i64 z.v, .slice z.a z.n z.c, .int .i64 z.k] 162)).mono hb2.size)))
  rw [hW2] at hZ4 hbZ
  clear HL hown hkey hh hz
  go_enter Tryz.func86, Tryz.ntmps86
  go_wp2
  go_region
  go_wp2
  go_region
  all_goals go_wp2
  all_goals refine bodyPost_ret (results_rowP rfl _ _ (w.heap.size + 1 + 1 + 1) _ #[.int .i64 z.v, .slice z.a z.n z.c, .int .i64 z.k] (0, 0) _ rfl hZ4 Tryz.underlying162 rfl (by kernel_rfl)) rfl ⟨rfl, ?_⟩
  all_goals exact hbZ
set_option maxRecDepth 100000 in
set_option maxHeartbeats 3200000 in
theorem Do_miss1 (gb gm : Nat) (d0 a0 b0 : Int) (v : UInt64) (xa ya : Option Addr) (xn xc yn yc : Nat) (xk yk : Int) (va : Int) (n : Nat) (D : DataW Value) (w : World) (nx : Int) (hbk : Blk w gb 159 #[.int .i64 va, .map (some gm), .int .i64 nx]) (hown : w.ownsMap Tryz.prog 206 heldR gm n D) (kl : Lit)
    (hkey : keyOf Tryz.prog 206 (doneV 1 xk yk v) = some kl) (hh : has D kl = false) (P : Nat → Prop) (A B : List Tm) (hx : TOut P w xa xn xc A) (hy : TOut P w ya yn yc B) (hQA : checkP va A = true) (hQB : checkP va B = true)
    (V : Int) (L : List Tm) (E : Int) (hV : symV va 1 v A B = V) (hL : symL va 1 v A B = L) (hE : symE va 1 v A B = E) (he : E ≠ 0) :
    Calls Tryz.prog 86 #[.pointer (some ⟨gb, 0, none⟩), .agg #[.int .i64 1, .int .i64 d0, .int .i64 a0, .int .i64 b0, .int .u64 (v.toNat : Int)], .agg #[.int .i64 va, .slice xa xn xc, .int .i64 xk], .agg #[.int .i64 va, .slice ya yn yc, .int .i64 yk]] w fun e w' => e = .returned (.tuple #[st0, .int .i64 E]) ∧ Below w.heap.size w w' := by
  have hgb := hbk.lt
  have HL : ∀ W', Below w.heap.size w W' → (Instr.lookup 157 (.map (some gm)) (doneV 1 xk yk v) true).run Tryz.prog W' = .ok (.tuple #[st0, .bool false]) W' := fun W' hb => by
    have := book_look (hown.kept (grown_of_below hb none) (by simp)) hkey st0 (at_miss hh _)
    rw [hh] at this
    exact this
  have HRK := hide (fun (W' : World) (hb : Below w.heap.size w W') => Reckon_calls gb 1 d0 a0 b0 v (by decide) P P va xa ya xn xc yn yc A B W' (hx.belowN hb) (hy.belowN hb) hQA hQB (.map (some gm)) (.int .i64 nx) (hbk.belowN hb) V L E hV hL hE)
  obtain ⟨W1, hW1⟩ : ∃ W1, W1 = (((((w.alloc (.cells #[.int .i64 1, .int .i64 d0, .int .i64 a0, .int .i64 b0, .int .u64 (v.toNat : Int)] 89)).alloc (.cells #[.int .i64 va, .slice xa xn xc, .int .i64 xk] 162)).alloc (.cells #[.int .i64 va, .slice ya yn yc, .int .i64 yk] 162)).alloc (.cells #[.int .i64 0, .slice none 0 0, .int .i64 0] 162)).alloc (.cells #[.int .i64 1, .int .i64 xk, .int .i64 yk, .int .u64 (v.toNat : Int)] 206)) := ⟨_, rfl⟩
  obtain ⟨hX1, hX2, hX3, hX4, hX5, hb0, hz0⟩ := five_boxes w 89 162 162 162 206 #[.int .i64 1, .int .i64 d0, .int .i64 a0, .int .i64 b0, .int .u64 (v.toNat : Int)] #[.int .i64 va, .slice xa xn xc, .int .i64 xk] #[.int .i64 va, .slice ya yn yc, .int .i64 yk] #[.int .i64 0, .slice none 0 0, .int .i64 0] #[.int .i64 1, .int .i64 xk, .int .i64 yk, .int .u64 (v.toNat : Int)] W1 hW1
  have hbQ := hb0.trans ((below_box W1 (.cells #[.int .i64 0, .slice none 0 0, .int .i64 0] 162)).mono hb0.size)
  have hl1 := HL _ (Below.drew (Below.drew hb0))
  have hbR := Below.drew (Below.drew hbQ)
  have hl2 := HL _ hbR
  have hX4' := (hX4.alloc (.cells #[.int .i64 0, .slice none 0 0, .int .i64 0] 162)).belowN (Below.drew (Below.drew (Below.refl _ _)))
  have hk1 := hbk.belowN hb0
  obtain ⟨k0, k1, k2, k3, k4, k5⟩ := hk1.c3
  obtain ⟨k6, k7, k8, k9, k10, k11⟩ := (hk1.alloc (.cells #[.int .i64 0, .slice none 0 0, .int .i64 0] 162)).c3
  rw [hW1] at hl1 hl2 k0 k1 k2 k6 k7 k8 hbR hX4'
  have he1 : (E == 0) = false := by simpa using he
  have he2 : (E != 0) = true := by simpa using he
  clear HL hown hkey hh hV hL hE he hx hy
  go_enter Tryz.func86, Tryz.ntmps86
  go_wp2
  go_region
  go_wp2
  go_region
  all_goals go_wp2_with (go_at_call 129; go_must ((with_reducible refine (HRK.out _ hbR).mono ?_); rintro vv w9 ⟨a9, n9, c9, rfl, hT9, hb9⟩; have hB9 := hbR.trans (hb9.mono hbR.size); have hX9 : Blk w9 (w.heap.size + 1 + 1 + 1) 162 #[.int .i64 0, .slice none 0 0, .int .i64 0] := Blk.belowN hX4' hb9; obtain ⟨x0, x1, x2, x3, x4, x5⟩ := hX9.c3; have hX10 := hX9.alloc (.cells #[.int .i64 V, .slice a9 n9 c9] 42); have hB10 := hB9.alloc hB9.size (.cells #[.int .i64 V, .slice a9 n9 c9] 42); obtain ⟨y0, y1, y2, y3, y4, y5⟩ := hX10.c3))
  all_goals have hF := ((hX10.set_ 0 (.int .i64 0)).set_ 1 (.slice none 0 0)).set_ 2 (.int .i64 0)
  all_goals refine bodyPost_ret (results_rowP rfl _ _ (w.heap.size + 1 + 1 + 1) _ #[.int .i64 0, .slice none 0 0, .int .i64 0] (0, 0) _ rfl hF Tryz.underlying162 rfl (by kernel_rfl)) rfl ⟨rfl, ?_⟩
  all_goals exact ((hB10.setCell (p := ⟨w.heap.size + 1 + 1 + 1, 0, none⟩) (by show _ ≤ w.heap.size + 1 + 1 + 1; omega) _).setCell (p := ⟨w.heap.size + 1 + 1 + 1, 1, none⟩) (by show _ ≤ w.heap.size + 1 + 1 + 1; omega) _).setCell (p := ⟨w.heap.size + 1 + 1 + 1, 2, none⟩) (by show _ ≤ w.heap.size + 1 + 1 + 1; omega) _
set_option maxRecDepth 100000 in
set_option maxHeartbeats 3200000 in
theorem Do_hit2 (gb gm : Nat) (d0 a0 b0 : Int) (v : UInt64) (x y z : StH) (va : Int) (n : Nat) (D : DataW Value) (w : World) (nx : Int) (hbk : Blk w gb 159 #[.int .i64 va, .map (some gm), .int .i64 nx]) (hown : w.ownsMap Tryz.prog 206 heldR gm n D) (kl : Lit)
    (hkey : keyOf Tryz.prog 206 (doneV 2 x.k y.k v) = some kl) (hh : has D kl = true) (hz : D.atKey kl (.held st0) = .held (stV z)) :
    Calls Tryz.prog 86 #[.pointer (some ⟨gb, 0, none⟩), .agg #[.int .i64 2, .int .i64 d0, .int .i64 a0, .int .i64 b0, .int .u64 (v.toNat : Int)], stV x, stV y] w fun e w' => e = .returned (.tuple #[stV z, .int .i64 0]) ∧ Below w.heap.size w w' := by
  have hgb := hbk.lt
  have HL : ∀ W', Below w.heap.size w W' → (Instr.lookup 157 (.map (some gm)) (doneV 2 x.k y.k v) true).run Tryz.prog W' = .ok (.tuple #[stV z, .bool true]) W' := fun W' hb => by
    have := book_look (hown.kept (grown_of_below hb none) (by simp)) hkey (stV z) hz
    rw [hh] at this
    exact this
  obtain ⟨W1, hW1⟩ : ∃ W1, W1 = (((((w.alloc (.cells #[.int .i64 2, .int .i64 d0, .int .i64 a0, .int .i64 b0, .int .u64 (v.toNat : Int)] 89)).alloc (.cells #[.int .i64 x.v, .slice x.a x.n x.c, .int .i64 x.k] 162)).alloc (.cells #[.int .i64 y.v, .slice y.a y.n y.c, .int .i64 y.k] 162)).alloc (.cells #[.int .i64 0, .slice none 0 0, .int .i64 0] 162)).alloc (.cells #[.int .i64 2, .int .i64 x.k, .int .i64 y.k, .int .u64 (v.toNat : Int)] 206)) := ⟨_, rfl⟩
  obtain ⟨hX1, hX2, hX3, hX4, hX5, hb0, hz0⟩ := five_boxes w 89 162 162 162 206 #[.int .i64 2, .int .i64 d0, .int .i64 a0, .int .i64 b0, .int .u64 (v.toNat : Int)] #[.int .i64 x.v, .slice x.a x.n x.c, .int .i64 x.k] #[.int .i64 y.v, .slice y.a y.n y.c, .int .i64 y.k] #[.int .i64 0, .slice none 0 0, .int .i64 0] #[.int .i64 2, .int .i64 x.k, .int .i64 y.k, .int .u64 (v.toNat : Int)] W1 hW1
  have hl1 := HL _ (Below.drew (Below.drew hb0))
  have hl2 := HL _ (Below.drew (Below.drew (hb0.trans ((below_box W1 (.cells #[.int .i64 0, .slice none 0 0, .int .i64 0] 162)).mono hb0.size))))
  have hk1 := hbk.belowN hb0
  obtain ⟨k0, k1, k2, k3, k4, k5⟩ := hk1.c3
  obtain ⟨k6, k7, k8, k9, k10, k11⟩ := (hk1.alloc (.cells #[.int .i64 0, .slice none 0 0, .int .i64 0] 162)).c3
  rw [hW1] at hl1 hl2 k0 k1 k2 k6 k7 k8
  have HLL := hide HL
  obtain ⟨W2, hW2⟩ : ∃ W2, W2 = (((((w.alloc (.cells #[.int .i64 2, .int .i64 d0, .int .i64 a0, .int .i64 b0, .int .u64 (v.toNat : Int)] 89)).alloc (.cells #[.int .i64 x.v, .slice x.a x.n x.c, .int .i64 x.k] 162)).alloc (.cells #[.int .i64 y.v, .slice y.a y.n y.c, .int .i64 y.k] 162)).alloc (.cells #[.int .i64 z.v, .slice z.a z.n z.c, .int .i64 z.k] 162)).alloc (.cells #[.int .i64 2, .int .i64 x.k, .int .i64 y.k, .int .u64 (v.toNat : Int)] 206)) := ⟨_, rfl⟩
  obtain ⟨hY1, hY2, hY3, hY4, hY5, hb2, hz2⟩ := five_boxes w 89 162 162 162 206 #[.int .i64 2, .int .i64 d0, .int .i64 a0, .int .i64 b0, .int .u64 (v.toNat : Int)] #[.int .i64 x.v, .slice x.a x.n x.c, .int .i64 x.k] #[.int .i64 y.v, .slice y.a y.n y.c, .int .i64 y.k] #[.int .i64 z.v, .slice z.a z.n z.c, .int .i64 z.k] #[.int .i64 2, .int .i64 x.k, .int .i64 y.k, .int .u64 (v.toNat : Int)] W2 hW2
  have hZ4 := hY4.alloc (.cells #[.int .i64 z.v, .slice z.a z.n z.c, .int .i64 z.k] 162)
  have hbZ := Below.drew (Below.drew (hb2.trans ((below_box W2 (.cells #[.int .i64 z.v, .slice z.a z.n z.c, .int .i64 z.k] 162)).mono hb2.size)))
  rw [hW2] at hZ4 hbZ
  clear HL hown hkey hh hz
  go_enter Tryz.func86, Tryz.ntmps86
  go_wp2
  go_region
  go_wp2
  go_region
  all_goals go_wp2
  all_goals refine bodyPost_ret (results_rowP rfl _ _ (w.heap.size + 1 + 1 + 1) _ #[.int .i64 z.v, .slice z.a z.n z.c, .int .i64 z.k] (0, 0) _ rfl hZ4 Tryz.underlying162 rfl (by kernel_rfl)) rfl ⟨rfl, ?_⟩
  all_goals exact hbZ
set_option maxRecDepth 100000 in
set_option maxHeartbeats 3200000 in
theorem Do_miss2 (gb gm : Nat) (d0 a0 b0 : Int) (v : UInt64) (xa ya : Option Addr) (xn xc yn yc : Nat) (xk yk : Int) (va : Int) (n : Nat) (D : DataW Value) (w : World) (nx : Int) (hbk : Blk w gb 159 #[.int .i64 va, .map (some gm), .int .i64 nx]) (hown : w.ownsMap Tryz.prog 206 heldR gm n D) (kl : Lit)
    (hkey : keyOf Tryz.prog 206 (doneV 2 xk yk v) = some kl) (hh : has D kl = false) (P : Nat → Prop) (A B : List Tm) (hx : TOut P w xa xn xc A) (hy : TOut P w ya yn yc B) (hQA : checkP va A = true) (hQB : checkP va B = true)
    (V : Int) (L : List Tm) (E : Int) (hV : symV va 2 v A B = V) (hL : symL va 2 v A B = L) (hE : symE va 2 v A B = E) (he : E ≠ 0) :
    Calls Tryz.prog 86 #[.pointer (some ⟨gb, 0, none⟩), .agg #[.int .i64 2, .int .i64 d0, .int .i64 a0, .int .i64 b0, .int .u64 (v.toNat : Int)], .agg #[.int .i64 va, .slice xa xn xc, .int .i64 xk], .agg #[.int .i64 va, .slice ya yn yc, .int .i64 yk]] w fun e w' => e = .returned (.tuple #[st0, .int .i64 E]) ∧ Below w.heap.size w w' := by
  have hgb := hbk.lt
  have HL : ∀ W', Below w.heap.size w W' → (Instr.lookup 157 (.map (some gm)) (doneV 2 xk yk v) true).run Tryz.prog W' = .ok (.tuple #[st0, .bool false]) W' := fun W' hb => by
    have := book_look (hown.kept (grown_of_below hb none) (by simp)) hkey st0 (at_miss hh _)
    rw [hh] at this
    exact this
  have HRK := hide (fun (W' : World) (hb : Below w.heap.size w W') => Reckon_calls gb 2 d0 a0 b0 v (by decide) P P va xa ya xn xc yn yc A B W' (hx.belowN hb) (hy.belowN hb) hQA hQB (.map (some gm)) (.int .i64 nx) (hbk.belowN hb) V L E hV hL hE)
  obtain ⟨W1, hW1⟩ : ∃ W1, W1 = (((((w.alloc (.cells #[.int .i64 2, .int .i64 d0, .int .i64 a0, .int .i64 b0, .int .u64 (v.toNat : Int)] 89)).alloc (.cells #[.int .i64 va, .slice xa xn xc, .int .i64 xk] 162)).alloc (.cells #[.int .i64 va, .slice ya yn yc, .int .i64 yk] 162)).alloc (.cells #[.int .i64 0, .slice none 0 0, .int .i64 0] 162)).alloc (.cells #[.int .i64 2, .int .i64 xk, .int .i64 yk, .int .u64 (v.toNat : Int)] 206)) := ⟨_, rfl⟩
  obtain ⟨hX1, hX2, hX3, hX4, hX5, hb0, hz0⟩ := five_boxes w 89 162 162 162 206 #[.int .i64 2, .int .i64 d0, .int .i64 a0, .int .i64 b0, .int .u64 (v.toNat : Int)] #[.int .i64 va, .slice xa xn xc, .int .i64 xk] #[.int .i64 va, .slice ya yn yc, .int .i64 yk] #[.int .i64 0, .slice none 0 0, .int .i64 0] #[.int .i64 2, .int .i64 xk, .int .i64 yk, .int .u64 (v.toNat : Int)] W1 hW1
  have hbQ := hb0.trans ((below_box W1 (.cells #[.int .i64 0, .slice none 0 0, .int .i64 0] 162)).mono hb0.size)
  have hl1 := HL _ (Below.drew (Below.drew hb0))
  have hbR := Below.drew (Below.drew hbQ)
  have hl2 := HL _ hbR
  have hX4' := (hX4.alloc (.cells #[.int .i64 0, .slice none 0 0, .int .i64 0] 162)).belowN (Below.drew (Below.drew (Below.refl _ _)))
  have hk1 := hbk.belowN hb0
  obtain ⟨k0, k1, k2, k3, k4, k5⟩ := hk1.c3
  obtain ⟨k6, k7, k8, k9, k10, k11⟩ := (hk1.alloc (.cells #[.int .i64 0, .slice none 0 0, .int .i64 0] 162)).c3
  rw [hW1] at hl1 hl2 k0 k1 k2 k6 k7 k8 hbR hX4'
  have he1 : (E == 0) = false := by simpa using he
  have he2 : (E != 0) = true := by simpa using he
  clear HL hown hkey hh hV hL hE he hx hy
  go_enter Tryz.func86, Tryz.ntmps86
  go_wp2
  go_region
  go_wp2
  go_region
  all_goals go_wp2_with (go_at_call 129; go_must ((with_reducible refine (HRK.out _ hbR).mono ?_); rintro vv w9 ⟨a9, n9, c9, rfl, hT9, hb9⟩; have hB9 := hbR.trans (hb9.mono hbR.size); have hX9 : Blk w9 (w.heap.size + 1 + 1 + 1) 162 #[.int .i64 0, .slice none 0 0, .int .i64 0] := Blk.belowN hX4' hb9; obtain ⟨x0, x1, x2, x3, x4, x5⟩ := hX9.c3; have hX10 := hX9.alloc (.cells #[.int .i64 V, .slice a9 n9 c9] 42); have hB10 := hB9.alloc hB9.size (.cells #[.int .i64 V, .slice a9 n9 c9] 42); obtain ⟨y0, y1, y2, y3, y4, y5⟩ := hX10.c3))
  all_goals have hF := ((hX10.set_ 0 (.int .i64 0)).set_ 1 (.slice none 0 0)).set_ 2 (.int .i64 0)
  all_goals refine bodyPost_ret (results_rowP rfl _ _ (w.heap.size + 1 + 1 + 1) _ #[.int .i64 0, .slice none 0 0, .int .i64 0] (0, 0) _ rfl hF Tryz.underlying162 rfl (by kernel_rfl)) rfl ⟨rfl, ?_⟩
  all_goals exact ((hB10.setCell (p := ⟨w.heap.size + 1 + 1 + 1, 0, none⟩) (by show _ ≤ w.heap.size + 1 + 1 + 1; omega) _).setCell (p := ⟨w.heap.size + 1 + 1 + 1, 1, none⟩) (by show _ ≤ w.heap.size + 1 + 1 + 1; omega) _).setCell (p := ⟨w.heap.size + 1 + 1 + 1, 2, none⟩) (by show _ ≤ w.heap.size + 1 + 1 + 1; omega) _
set_option maxRecDepth 100000 in
set_option maxHeartbeats 3200000 in
theorem Do_hit3 (gb gm : Nat) (d0 a0 b0 : Int) (v : UInt64) (x y z : StH) (va : Int) (n : Nat) (D : DataW Value) (w : World) (nx : Int) (hbk : Blk w gb 159 #[.int .i64 va, .map (some gm), .int .i64 nx]) (hown : w.ownsMap Tryz.prog 206 heldR gm n D) (kl : Lit)
    (hkey : keyOf Tryz.prog 206 (doneV 3 x.k y.k v) = some kl) (hh : has D kl = true) (hz : D.atKey kl (.held st0) = .held (stV z)) :
    Calls Tryz.prog 86 #[.pointer (some ⟨gb, 0, none⟩), .agg #[.int .i64 3, .int .i64 d0, .int .i64 a0, .int .i64 b0, .int .u64 (v.toNat : Int)], stV x, stV y] w fun e w' => e = .returned (.tuple #[stV z, .int .i64 0]) ∧ Below w.heap.size w w' := by
  have hgb := hbk.lt
  have HL : ∀ W', Below w.heap.size w W' → (Instr.lookup 157 (.map (some gm)) (doneV 3 x.k y.k v) true).run Tryz.prog W' = .ok (.tuple #[stV z, .bool true]) W' := fun W' hb => by
    have := book_look (hown.kept (grown_of_below hb none) (by simp)) hkey (stV z) hz
    rw [hh] at this
    exact this
  obtain ⟨W1, hW1⟩ : ∃ W1, W1 = (((((w.alloc (.cells #[.int .i64 3, .int .i64 d0, .int .i64 a0, .int .i64 b0, .int .u64 (v.toNat : Int)] 89)).alloc (.cells #[.int .i64 x.v, .slice x.a x.n x.c, .int .i64 x.k] 162)).alloc (.cells #[.int .i64 y.v, .slice y.a y.n y.c, .int .i64 y.k] 162)).alloc (.cells #[.int .i64 0, .slice none 0 0, .int .i64 0] 162)).alloc (.cells #[.int .i64 3, .int .i64 x.k, .int .i64 y.k, .int .u64 (v.toNat : Int)] 206)) := ⟨_, rfl⟩
  obtain ⟨hX1, hX2, hX3, hX4, hX5, hb0, hz0⟩ := five_boxes w 89 162 162 162 206 #[.int .i64 3, .int .i64 d0, .int .i64 a0, .int .i64 b0, .int .u64 (v.toNat : Int)] #[.int .i64 x.v, .slice x.a x.n x.c, .int .i64 x.k] #[.int .i64 y.v, .slice y.a y.n y.c, .int .i64 y.k] #[.int .i64 0, .slice none 0 0, .int .i64 0] #[.int .i64 3, .int .i64 x.k, .int .i64 y.k, .int .u64 (v.toNat : Int)] W1 hW1
  have hl1 := HL _ (Below.drew (Below.drew hb0))
  have hl2 := HL _ (Below.drew (Below.drew (hb0.trans ((below_box W1 (.cells #[.int .i64 0, .slice none 0 0, .int .i64 0] 162)).mono hb0.size))))
  have hk1 := hbk.belowN hb0
  obtain ⟨k0, k1, k2, k3, k4, k5⟩ := hk1.c3
  obtain ⟨k6, k7, k8, k9, k10, k11⟩ := (hk1.alloc (.cells #[.int .i64 0, .slice none 0 0, .int .i64 0] 162)).c3
  rw [hW1] at hl1 hl2 k0 k1 k2 k6 k7 k8
  have HLL := hide HL
  obtain ⟨W2, hW2⟩ : ∃ W2, W2 = (((((w.alloc (.cells #[.int .i64 3, .int .i64 d0, .int .i64 a0, .int .i64 b0, .int .u64 (v.toNat : Int)] 89)).alloc (.cells #[.int .i64 x.v, .slice x.a x.n x.c, .int .i64 x.k] 162)).alloc (.cells #[.int .i64 y.v, .slice y.a y.n y.c, .int .i64 y.k] 162)).alloc (.cells #[.int .i64 z.v, .slice z.a z.n z.c, .int .i64 z.k] 162)).alloc (.cells #[.int .i64 3, .int .i64 x.k, .int .i64 y.k, .int .u64 (v.toNat : Int)] 206)) := ⟨_, rfl⟩
  obtain ⟨hY1, hY2, hY3, hY4, hY5, hb2, hz2⟩ := five_boxes w 89 162 162 162 206 #[.int .i64 3, .int .i64 d0, .int .i64 a0, .int .i64 b0, .int .u64 (v.toNat : Int)] #[.int .i64 x.v, .slice x.a x.n x.c, .int .i64 x.k] #[.int .i64 y.v, .slice y.a y.n y.c, .int .i64 y.k] #[.int .i64 z.v, .slice z.a z.n z.c, .int .i64 z.k] #[.int .i64 3, .int .i64 x.k, .int .i64 y.k, .int .u64 (v.toNat : Int)] W2 hW2
  have hZ4 := hY4.alloc (.cells #[.int .i64 z.v, .slice z.a z.n z.c, .int .i64 z.k] 162)
  have hbZ := Below.drew (Below.drew (hb2.trans ((below_box W2 (.cells #[.int .i64 z.v, .slice z.a z.n z.c, .int .i64 z.k] 162)).mono hb2.size)))
  rw [hW2] at hZ4 hbZ
  clear HL hown hkey hh hz
  go_enter Tryz.func86, Tryz.ntmps86
  go_wp2
  go_region
  go_wp2
  go_region
  all_goals go_wp2
  all_goals refine bodyPost_ret (results_rowP rfl _ _ (w.heap.size + 1 + 1 + 1) _ #[.int .i64 z.v, .slice z.a z.n z.c, .int .i64 z.k] (0, 0) _ rfl hZ4 Tryz.underlying162 rfl (by kernel_rfl)) rfl ⟨rfl, ?_⟩
  all_goals exact hbZ
set_option maxRecDepth 100000 in
set_option maxHeartbeats 3200000 in
theorem Do_miss3 (gb gm : Nat) (d0 a0 b0 : Int) (v : UInt64) (xa ya : Option Addr) (xn xc yn yc : Nat) (xk yk : Int) (va : Int) (n : Nat) (D : DataW Value) (w : World) (nx : Int) (hbk : Blk w gb 159 #[.int .i64 va, .map (some gm), .int .i64 nx]) (hown : w.ownsMap Tryz.prog 206 heldR gm n D) (kl : Lit)
    (hkey : keyOf Tryz.prog 206 (doneV 3 xk yk v) = some kl) (hh : has D kl = false) (P : Nat → Prop) (A B : List Tm) (hx : TOut P w xa xn xc A) (hy : TOut P w ya yn yc B) (hQA : checkP va A = true) (hQB : checkP va B = true)
    (V : Int) (L : List Tm) (E : Int) (hV : symV va 3 v A B = V) (hL : symL va 3 v A B = L) (hE : symE va 3 v A B = E) (he : E ≠ 0) :
    Calls Tryz.prog 86 #[.pointer (some ⟨gb, 0, none⟩), .agg #[.int .i64 3, .int .i64 d0, .int .i64 a0, .int .i64 b0, .int .u64 (v.toNat : Int)], .agg #[.int .i64 va, .slice xa xn xc, .int .i64 xk], .agg #[.int .i64 va, .slice ya yn yc, .int .i64 yk]] w fun e w' => e = .returned (.tuple #[st0, .int .i64 E]) ∧ Below w.heap.size w w' := by
  have hgb := hbk.lt
  have HL : ∀ W', Below w.heap.size w W' → (Instr.lookup 157 (.map (some gm)) (doneV 3 xk yk v) true).run Tryz.prog W' = .ok (.tuple #[st0, .bool false]) W' := fun W' hb => by
    have := book_look (hown.kept (grown_of_below hb none) (by simp)) hkey st0 (at_miss hh _)
    rw [hh] at this
    exact this
  have HRK := hide (fun (W' : World) (hb : Below w.heap.size w W') => Reckon_calls gb 3 d0 a0 b0 v (by decide) P P va xa ya xn xc yn yc A B W' (hx.belowN hb) (hy.belowN hb) hQA hQB (.map (some gm)) (.int .i64 nx) (hbk.belowN hb) V L E hV hL hE)
  obtain ⟨W1, hW1⟩ : ∃ W1, W1 = (((((w.alloc (.cells #[.int .i64 3, .int .i64 d0, .int .i64 a0, .int .i64 b0, .int .u64 (v.toNat : Int)] 89)).alloc (.cells #[.int .i64 va, .slice xa xn xc, .int .i64 xk] 162)).alloc (.cells #[.int .i64 va, .slice ya yn yc, .int .i64 yk] 162)).alloc (.cells #[.int .i64 0, .slice none 0 0, .int .i64 0] 162)).alloc (.cells #[.int .i64 3, .int .i64 xk, .int .i64 yk, .int .u64 (v.toNat : Int)] 206)) := ⟨_, rfl⟩
  obtain ⟨hX1, hX2, hX3, hX4, hX5, hb0, hz0⟩ := five_boxes w 89 162 162 162 206 #[.int .i64 3, .int .i64 d0, .int .i64 a0, .int .i64 b0, .int .u64 (v.toNat : Int)] #[.int .i64 va, .slice xa xn xc, .int .i64 xk] #[.int .i64 va, .slice ya yn yc, .int .i64 yk] #[.int .i64 0, .slice none 0 0, .int .i64 0] #[.int .i64 3, .int .i64 xk, .int .i64 yk, .int .u64 (v.toNat : Int)] W1 hW1
  have hbQ := hb0.trans ((below_box W1 (.cells #[.int .i64 0, .slice none 0 0, .int .i64 0] 162)).mono hb0.size)
  have hl1 := HL _ (Below.drew (Below.drew hb0))
  have hbR := Below.drew (Below.drew hbQ)
  have hl2 := HL _ hbR
  have hX4' := (hX4.alloc (.cells #[.int .i64 0, .slice none 0 0, .int .i64 0] 162)).belowN (Below.drew (Below.drew (Below.refl _ _)))
  have hk1 := hbk.belowN hb0
  obtain ⟨k0, k1, k2, k3, k4, k5⟩ := hk1.c3
  obtain ⟨k6, k7, k8, k9, k10, k11⟩ := (hk1.alloc (.cells #[.int .i64 0, .slice none 0 0, .int .i64 0] 162)).c3
  rw [hW1] at hl1 hl2 k0 k1 k2 k6 k7 k8 hbR hX4'
  have he1 : (E == 0) = false := by simpa using he
  have he2 : (E != 0) = true := by simpa using he
  clear HL hown hkey hh hV hL hE he hx hy
  go_enter Tryz.func86, Tryz.ntmps86
  go_wp2
  go_region
  go_wp2
  go_region
  all_goals go_wp2_with (go_at_call 129; go_must ((with_reducible refine (HRK.out _ hbR).mono ?_); rintro vv w9 ⟨a9, n9, c9, rfl, hT9, hb9⟩; have hB9 := hbR.trans (hb9.mono hbR.size); have hX9 : Blk w9 (w.heap.size + 1 + 1 + 1) 162 #[.int .i64 0, .slice none 0 0, .int .i64 0] := Blk.belowN hX4' hb9; obtain ⟨x0, x1, x2, x3, x4, x5⟩ := hX9.c3; have hX10 := hX9.alloc (.cells #[.int .i64 V, .slice a9 n9 c9] 42); have hB10 := hB9.alloc hB9.size (.cells #[.int .i64 V, .slice a9 n9 c9] 42); obtain ⟨y0, y1, y2, y3, y4, y5⟩ := hX10.c3))
  all_goals have hF := ((hX10.set_ 0 (.int .i64 0)).set_ 1 (.slice none 0 0)).set_ 2 (.int .i64 0)
  all_goals refine bodyPost_ret (results_rowP rfl _ _ (w.heap.size + 1 + 1 + 1) _ #[.int .i64 0, .slice none 0 0, .int .i64 0] (0, 0) _ rfl hF Tryz.underlying162 rfl (by kernel_rfl)) rfl ⟨rfl, ?_⟩
  all_goals exact ((hB10.setCell (p := ⟨w.heap.size + 1 + 1 + 1, 0, none⟩) (by show _ ≤ w.heap.size + 1 + 1 + 1; omega) _).setCell (p := ⟨w.heap.size + 1 + 1 + 1, 1, none⟩) (by show _ ≤ w.heap.size + 1 + 1 + 1; omega) _).setCell (p := ⟨w.heap.size + 1 + 1 + 1, 2, none⟩) (by show _ ≤ w.heap.size + 1 + 1 + 1; omega) _
set_option maxRecDepth 100000 in
set_option maxHeartbeats 3200000 in
theorem Do_hit4 (gb gm : Nat) (d0 a0 b0 : Int) (v : UInt64) (x y z : StH) (va : Int) (n : Nat) (D : DataW Value) (w : World) (nx : Int) (hbk : Blk w gb 159 #[.int .i64 va, .map (some gm), .int .i64 nx]) (hown : w.ownsMap Tryz.prog 206 heldR gm n D) (kl : Lit)
    (hkey : keyOf Tryz.prog 206 (doneV 4 x.k 0 v) = some kl) (hh : has D kl = true) (hz : D.atKey kl (.held st0) = .held (stV z)) :
    Calls Tryz.prog 86 #[.pointer (some ⟨gb, 0, none⟩), .agg #[.int .i64 4, .int .i64 d0, .int .i64 a0, .int .i64 b0, .int .u64 (v.toNat : Int)], stV x, stV y] w fun e w' => e = .returned (.tuple #[stV z, .int .i64 0]) ∧ Below w.heap.size w w' := by
  have hgb := hbk.lt
  have HL : ∀ W', Below w.heap.size w W' → (Instr.lookup 157 (.map (some gm)) (doneV 4 x.k 0 v) true).run Tryz.prog W' = .ok (.tuple #[stV z, .bool true]) W' := fun W' hb => by
    have := book_look (hown.kept (grown_of_below hb none) (by simp)) hkey (stV z) hz
    rw [hh] at this
    exact this
  obtain ⟨W1, hW1⟩ : ∃ W1, W1 = (((((w.alloc (.cells #[.int .i64 4, .int .i64 d0, .int .i64 a0, .int .i64 b0, .int .u64 (v.toNat : Int)] 89)).alloc (.cells #[.int .i64 x.v, .slice x.a x.n x.c, .int .i64 x.k] 162)).alloc (.cells #[.int .i64 y.v, .slice y.a y.n y.c, .int .i64 y.k] 162)).alloc (.cells #[.int .i64 0, .slice none 0 0, .int .i64 0] 162)).alloc (.cells #[.int .i64 4, .int .i64 x.k, .int .i64 0, .int .u64 (v.toNat : Int)] 206)) := ⟨_, rfl⟩
  obtain ⟨hX1, hX2, hX3, hX4, hX5, hb0, hz0⟩ := five_boxes w 89 162 162 162 206 #[.int .i64 4, .int .i64 d0, .int .i64 a0, .int .i64 b0, .int .u64 (v.toNat : Int)] #[.int .i64 x.v, .slice x.a x.n x.c, .int .i64 x.k] #[.int .i64 y.v, .slice y.a y.n y.c, .int .i64 y.k] #[.int .i64 0, .slice none 0 0, .int .i64 0] #[.int .i64 4, .int .i64 x.k, .int .i64 0, .int .u64 (v.toNat : Int)] W1 hW1
  have hl1 := HL _ (Below.drew hb0)
  have hl2 := HL _ (Below.drew (hb0.trans ((below_box W1 (.cells #[.int .i64 0, .slice none 0 0, .int .i64 0] 162)).mono hb0.size)))
  have hk1 := hbk.belowN hb0
  obtain ⟨k0, k1, k2, k3, k4, k5⟩ := hk1.c3
  obtain ⟨k6, k7, k8, k9, k10, k11⟩ := (hk1.alloc (.cells #[.int .i64 0, .slice none 0 0, .int .i64 0] 162)).c3
  rw [hW1] at hl1 hl2 k0 k1 k2 k6 k7 k8
  have HLL := hide HL
  obtain ⟨W2, hW2⟩ : ∃ W2, W2 = (((((w.alloc (.cells #[.int .i64 4, .int .i64 d0, .int .i64 a0, .int .i64 b0, .int .u64 (v.toNat : Int)] 89)).alloc (.cells #[.int .i64 x.v, .slice x.a x.n x.c, .int .i64 x.k] 162)).alloc (.cells #[.int .i64 y.v, .slice y.a y.n y.c, .int .i64 y.k] 162)).alloc (.cells #[.int .i64 z.v, .slice z.a z.n z.c, .int .i64 z.k] 162)).alloc (.cells #[.int .i64 4, .int .i64 x.k, .int .i64 0, .int .u64 (v.toNat : Int)] 206)) := ⟨_, rfl⟩
  obtain ⟨hY1, hY2, hY3, hY4, hY5, hb2, hz2⟩ := five_boxes w 89 162 162 162 206 #[.int .i64 4, .int .i64 d0, .int .i64 a0, .int .i64 b0, .int .u64 (v.toNat : Int)] #[.int .i64 x.v, .slice x.a x.n x.c, .int .i64 x.k] #[.int .i64 y.v, .slice y.a y.n y.c, .int .i64 y.k] #[.int .i64 z.v, .slice z.a z.n z.c, .int .i64 z.k] #[.int .i64 4, .int .i64 x.k, .int .i64 0, .int .u64 (v.toNat : Int)] W2 hW2
  have hZ4 := hY4.alloc (.cells #[.int .i64 z.v, .slice z.a z.n z.c, .int .i64 z.k] 162)
  have hbZ := Below.drew (hb2.trans ((below_box W2 (.cells #[.int .i64 z.v, .slice z.a z.n z.c, .int .i64 z.k] 162)).mono hb2.size))
  rw [hW2] at hZ4 hbZ
  clear HL hown hkey hh hz
  go_enter Tryz.func86, Tryz.ntmps86
  go_wp2
  go_region
  all_goals go_wp2
  all_goals refine bodyPost_ret (results_rowP rfl _ _ (w.heap.size + 1 + 1 + 1) _ #[.int .i64 z.v, .slice z.a z.n z.c, .int .i64 z.k] (0, 0) _ rfl hZ4 Tryz.underlying162 rfl (by kernel_rfl)) rfl ⟨rfl, ?_⟩
  all_goals exact hbZ
set_option maxRecDepth 100000 in
set_option maxHeartbeats 3200000 in
theorem Do_miss4 (gb gm : Nat) (d0 a0 b0 : Int) (v : UInt64) (xa ya : Option Addr) (xn xc yn yc : Nat) (xk yk : Int) (va : Int) (n : Nat) (D : DataW Value) (w : World) (nx : Int) (hbk : Blk w gb 159 #[.int .i64 va, .map (some gm), .int .i64 nx]) (hown : w.ownsMap Tryz.prog 206 heldR gm n D) (kl : Lit)
    (hkey : keyOf Tryz.prog 206 (doneV 4 xk 0 v) = some kl) (hh : has D kl = false) (P : Nat → Prop) (A B : List Tm) (hx : TOut P w xa xn xc A) (hy : TOut P w ya yn yc B) (hQA : checkP va A = true) (hQB : checkP va B = true)
    (V : Int) (L : List Tm) (E : Int) (hV : symV va 4 v A B = V) (hL : symL va 4 v A B = L) (hE : symE va 4 v A B = E) (he : E ≠ 0) :
    Calls Tryz.prog 86 #[.pointer (some ⟨gb, 0, none⟩), .agg #[.int .i64 4, .int .i64 d0, .int .i64 a0, .int .i64 b0, .int .u64 (v.toNat : Int)], .agg #[.int .i64 va, .slice xa xn xc, .int .i64 xk], .agg #[.int .i64 va, .slice ya yn yc, .int .i64 yk]] w fun e w' => e = .returned (.tuple #[st0, .int .i64 E]) ∧ Below w.heap.size w w' := by
  have hgb := hbk.lt
  have HL : ∀ W', Below w.heap.size w W' → (Instr.lookup 157 (.map (some gm)) (doneV 4 xk 0 v) true).run Tryz.prog W' = .ok (.tuple #[st0, .bool false]) W' := fun W' hb => by
    have := book_look (hown.kept (grown_of_below hb none) (by simp)) hkey st0 (at_miss hh _)
    rw [hh] at this
    exact this
  have HRK := hide (fun (W' : World) (hb : Below w.heap.size w W') => Reckon_calls gb 4 d0 a0 b0 v (by decide) P P va xa ya xn xc yn yc A B W' (hx.belowN hb) (hy.belowN hb) hQA hQB (.map (some gm)) (.int .i64 nx) (hbk.belowN hb) V L E hV hL hE)
  obtain ⟨W1, hW1⟩ : ∃ W1, W1 = (((((w.alloc (.cells #[.int .i64 4, .int .i64 d0, .int .i64 a0, .int .i64 b0, .int .u64 (v.toNat : Int)] 89)).alloc (.cells #[.int .i64 va, .slice xa xn xc, .int .i64 xk] 162)).alloc (.cells #[.int .i64 va, .slice ya yn yc, .int .i64 yk] 162)).alloc (.cells #[.int .i64 0, .slice none 0 0, .int .i64 0] 162)).alloc (.cells #[.int .i64 4, .int .i64 xk, .int .i64 0, .int .u64 (v.toNat : Int)] 206)) := ⟨_, rfl⟩
  obtain ⟨hX1, hX2, hX3, hX4, hX5, hb0, hz0⟩ := five_boxes w 89 162 162 162 206 #[.int .i64 4, .int .i64 d0, .int .i64 a0, .int .i64 b0, .int .u64 (v.toNat : Int)] #[.int .i64 va, .slice xa xn xc, .int .i64 xk] #[.int .i64 va, .slice ya yn yc, .int .i64 yk] #[.int .i64 0, .slice none 0 0, .int .i64 0] #[.int .i64 4, .int .i64 xk, .int .i64 0, .int .u64 (v.toNat : Int)] W1 hW1
  have hbQ := hb0.trans ((below_box W1 (.cells #[.int .i64 0, .slice none 0 0, .int .i64 0] 162)).mono hb0.size)
  have hl1 := HL _ (Below.drew hb0)
  have hbR := Below.drew hbQ
  have hl2 := HL _ hbR
  have hX4' := (hX4.alloc (.cells #[.int .i64 0, .slice none 0 0, .int .i64 0] 162)).belowN (Below.drew (Below.refl _ _))
  have hk1 := hbk.belowN hb0
  obtain ⟨k0, k1, k2, k3, k4, k5⟩ := hk1.c3
  obtain ⟨k6, k7, k8, k9, k10, k11⟩ := (hk1.alloc (.cells #[.int .i64 0, .slice none 0 0, .int .i64 0] 162)).c3
  rw [hW1] at hl1 hl2 k0 k1 k2 k6 k7 k8 hbR hX4'
  have he1 : (E == 0) = false := by simpa using he
  have he2 : (E != 0) = true := by simpa using he
  clear HL hown hkey hh hV hL hE he hx hy
  go_enter Tryz.func86, Tryz.ntmps86
  go_wp2
  go_region
  all_goals go_wp2_with (go_at_call 129; go_must ((with_reducible refine (HRK.out _ hbR).mono ?_); rintro vv w9 ⟨a9, n9, c9, rfl, hT9, hb9⟩; have hB9 := hbR.trans (hb9.mono hbR.size); have hX9 : Blk w9 (w.heap.size + 1 + 1 + 1) 162 #[.int .i64 0, .slice none 0 0, .int .i64 0] := Blk.belowN hX4' hb9; obtain ⟨x0, x1, x2, x3, x4, x5⟩ := hX9.c3; have hX10 := hX9.alloc (.cells #[.int .i64 V, .slice a9 n9 c9] 42); have hB10 := hB9.alloc hB9.size (.cells #[.int .i64 V, .slice a9 n9 c9] 42); obtain ⟨y0, y1, y2, y3, y4, y5⟩ := hX10.c3))
  all_goals have hF := ((hX10.set_ 0 (.int .i64 0)).set_ 1 (.slice none 0 0)).set_ 2 (.int .i64 0)
  all_goals refine bodyPost_ret (results_rowP rfl _ _ (w.heap.size + 1 + 1 + 1) _ #[.int .i64 0, .slice none 0 0, .int .i64 0] (0, 0) _ rfl hF Tryz.underlying162 rfl (by kernel_rfl)) rfl ⟨rfl, ?_⟩
  all_goals exact ((hB10.setCell (p := ⟨w.heap.size + 1 + 1 + 1, 0, none⟩) (by show _ ≤ w.heap.size + 1 + 1 + 1; omega) _).setCell (p := ⟨w.heap.size + 1 + 1 + 1, 1, none⟩) (by show _ ≤ w.heap.size + 1 + 1 + 1; omega) _).setCell (p := ⟨w.heap.size + 1 + 1 + 1, 2, none⟩) (by show _ ≤ w.heap.size + 1 + 1 + 1; omega) _
set_option maxRecDepth 100000 in
set_option maxHeartbeats 3200000 in
theorem Do_hit5 (gb gm : Nat) (d0 a0 b0 : Int) (v : UInt64) (x y z : StH) (va : Int) (n : Nat) (D : DataW Value) (w : World) (nx : Int) (hbk : Blk w gb 159 #[.int .i64 va, .map (some gm), .int .i64 nx]) (hown : w.ownsMap Tryz.prog 206 heldR gm n D) (kl : Lit)
    (hkey : keyOf Tryz.prog 206 (doneV 5 0 0 v) = some kl) (hh : has D kl = true) (hz : D.atKey kl (.held st0) = .held (stV z)) :
    Calls Tryz.prog 86 #[.pointer (some ⟨gb, 0, none⟩), .agg #[.int .i64 5, .int .i64 d0, .int .i64 a0, .int .i64 b0, .int .u64 (v.toNat : Int)], stV x, stV y] w fun e w' => e = .returned (.tuple #[stV z, .int .i64 0]) ∧ Below w.heap.size w w' := by
  have hgb := hbk.lt
  have HL : ∀ W', Below w.heap.size w W' → (Instr.lookup 157 (.map (some gm)) (doneV 5 0 0 v) true).run Tryz.prog W' = .ok (.tuple #[stV z, .bool true]) W' := fun W' hb => by
    have := book_look (hown.kept (grown_of_below hb none) (by simp)) hkey (stV z) hz
    rw [hh] at this
    exact this
  obtain ⟨W1, hW1⟩ : ∃ W1, W1 = (((((w.alloc (.cells #[.int .i64 5, .int .i64 d0, .int .i64 a0, .int .i64 b0, .int .u64 (v.toNat : Int)] 89)).alloc (.cells #[.int .i64 x.v, .slice x.a x.n x.c, .int .i64 x.k] 162)).alloc (.cells #[.int .i64 y.v, .slice y.a y.n y.c, .int .i64 y.k] 162)).alloc (.cells #[.int .i64 0, .slice none 0 0, .int .i64 0] 162)).alloc (.cells #[.int .i64 5, .int .i64 0, .int .i64 0, .int .u64 (v.toNat : Int)] 206)) := ⟨_, rfl⟩
  obtain ⟨hX1, hX2, hX3, hX4, hX5, hb0, hz0⟩ := five_boxes w 89 162 162 162 206 #[.int .i64 5, .int .i64 d0, .int .i64 a0, .int .i64 b0, .int .u64 (v.toNat : Int)] #[.int .i64 x.v, .slice x.a x.n x.c, .int .i64 x.k] #[.int .i64 y.v, .slice y.a y.n y.c, .int .i64 y.k] #[.int .i64 0, .slice none 0 0, .int .i64 0] #[.int .i64 5, .int .i64 0, .int .i64 0, .int .u64 (v.toNat : Int)] W1 hW1
  have hl1 := HL _ (Below.drew hb0)
  have hl2 := HL _ (Below.drew (hb0.trans ((below_box W1 (.cells #[.int .i64 0, .slice none 0 0, .int .i64 0] 162)).mono hb0.size)))
  have hk1 := hbk.belowN hb0
  obtain ⟨k0, k1, k2, k3, k4, k5⟩ := hk1.c3
  obtain ⟨k6, k7, k8, k9, k10, k11⟩ := (hk1.alloc (.cells #[.int .i64 0, .slice none 0 0, .int .i64 0] 162)).c3
  rw [hW1] at hl1 hl2 k0 k1 k2 k6 k7 k8
  have HLL := hide HL
  obtain ⟨W2, hW2⟩ : ∃ W2, W2 = (((((w.alloc (.cells #[.int .i64 5, .int .i64 d0, .int .i64 a0, .int .i64 b0, .int .u64 (v.toNat : Int)] 89)).alloc (.cells #[.int .i64 x.v, .slice x.a x.n x.c, .int .i64 x.k] 162)).alloc (.cells #[.int .i64 y.v, .slice y.a y.n y.c, .int .i64 y.k] 162)).alloc (.cells #[.int .i64 z.v, .slice z.a z.n z.c, .int .i64 z.k] 162)).alloc (.cells #[.int .i64 5, .int .i64 0, .int .i64 0, .int .u64 (v.toNat : Int)] 206)) := ⟨_, rfl⟩
  obtain ⟨hY1, hY2, hY3, hY4, hY5, hb2, hz2⟩ := five_boxes w 89 162 162 162 206 #[.int .i64 5, .int .i64 d0, .int .i64 a0, .int .i64 b0, .int .u64 (v.toNat : Int)] #[.int .i64 x.v, .slice x.a x.n x.c, .int .i64 x.k] #[.int .i64 y.v, .slice y.a y.n y.c, .int .i64 y.k] #[.int .i64 z.v, .slice z.a z.n z.c, .int .i64 z.k] #[.int .i64 5, .int .i64 0, .int .i64 0, .int .u64 (v.toNat : Int)] W2 hW2
  have hZ4 := hY4.alloc (.cells #[.int .i64 z.v, .slice z.a z.n z.c, .int .i64 z.k] 162)
  have hbZ := Below.drew (hb2.trans ((below_box W2 (.cells #[.int .i64 z.v, .slice z.a z.n z.c, .int .i64 z.k] 162)).mono hb2.size))
  rw [hW2] at hZ4 hbZ
  clear HL hown hkey hh hz
  go_enter Tryz.func86, Tryz.ntmps86
  go_wp2
  go_region
  all_goals go_wp2
  all_goals refine bodyPost_ret (results_rowP rfl _ _ (w.heap.size + 1 + 1 + 1) _ #[.int .i64 z.v, .slice z.a z.n z.c, .int .i64 z.k] (0, 0) _ rfl hZ4 Tryz.underlying162 rfl (by kernel_rfl)) rfl ⟨rfl, ?_⟩
  all_goals exact hbZ
set_option maxRecDepth 100000 in
set_option maxHeartbeats 3200000 in
theorem Do_miss5 (gb gm : Nat) (d0 a0 b0 : Int) (v : UInt64) (xa ya : Option Addr) (xn xc yn yc : Nat) (xk yk : Int) (va : Int) (n : Nat) (D : DataW Value) (w : World) (nx : Int) (hbk : Blk w gb 159 #[.int .i64 va, .map (some gm), .int .i64 nx]) (hown : w.ownsMap Tryz.prog 206 heldR gm n D) (kl : Lit)
    (hkey : keyOf Tryz.prog 206 (doneV 5 0 0 v) = some kl) (hh : has D kl = false) (P : Nat → Prop) (A B : List Tm) (hx : TOut P w xa xn xc A) (hy : TOut P w ya yn yc B) (hQA : checkP va A = true) (hQB : checkP va B = true)
    (V : Int) (L : List Tm) (E : Int) (hV : symV va 5 v A B = V) (hL : symL va 5 v A B = L) (hE : symE va 5 v A B = E) (he : E ≠ 0) :
    Calls Tryz.prog 86 #[.pointer (some ⟨gb, 0, none⟩), .agg #[.int .i64 5, .int .i64 d0, .int .i64 a0, .int .i64 b0, .int .u64 (v.toNat : Int)], .agg #[.int .i64 va, .slice xa xn xc, .int .i64 xk], .agg #[.int .i64 va, .slice ya yn yc, .int .i64 yk]] w fun e w' => e = .returned (.tuple #[st0, .int .i64 E]) ∧ Below w.heap.size w w' := by
  have hgb := hbk.lt
  have HL : ∀ W', Below w.heap.size w W' → (Instr.lookup 157 (.map (some gm)) (doneV 5 0 0 v) true).run Tryz.prog W' = .ok (.tuple #[st0, .bool false]) W' := fun W' hb => by
    have := book_look (hown.kept (grown_of_below hb none) (by simp)) hkey st0 (at_miss hh _)
    rw [hh] at this
    exact this
  have HRK := hide (fun (W' : World) (hb : Below w.heap.size w W') => Reckon_calls gb 5 d0 a0 b0 v (by decide) P P va xa ya xn xc yn yc A B W' (hx.belowN hb) (hy.belowN hb) hQA hQB (.map (some gm)) (.int .i64 nx) (hbk.belowN hb) V L E hV hL hE)
  obtain ⟨W1, hW1⟩ : ∃ W1, W1 = (((((w.alloc (.cells #[.int .i64 5, .int .i64 d0, .int .i64 a0, .int .i64 b0, .int .u64 (v.toNat : Int)] 89)).alloc (.cells #[.int .i64 va, .slice xa xn xc, .int .i64 xk] 162)).alloc (.cells #[.int .i64 va, .slice ya yn yc, .int .i64 yk] 162)).alloc (.cells #[.int .i64 0, .slice none 0 0, .int .i64 0] 162)).alloc (.cells #[.int .i64 5, .int .i64 0, .int .i64 0, .int .u64 (v.toNat : Int)] 206)) := ⟨_, rfl⟩
  obtain ⟨hX1, hX2, hX3, hX4, hX5, hb0, hz0⟩ := five_boxes w 89 162 162 162 206 #[.int .i64 5, .int .i64 d0, .int .i64 a0, .int .i64 b0, .int .u64 (v.toNat : Int)] #[.int .i64 va, .slice xa xn xc, .int .i64 xk] #[.int .i64 va, .slice ya yn yc, .int .i64 yk] #[.int .i64 0, .slice none 0 0, .int .i64 0] #[.int .i64 5, .int .i64 0, .int .i64 0, .int .u64 (v.toNat : Int)] W1 hW1
  have hbQ := hb0.trans ((below_box W1 (.cells #[.int .i64 0, .slice none 0 0, .int .i64 0] 162)).mono hb0.size)
  have hl1 := HL _ (Below.drew hb0)
  have hbR := Below.drew hbQ
  have hl2 := HL _ hbR
  have hX4' := (hX4.alloc (.cells #[.int .i64 0, .slice none 0 0, .int .i64 0] 162)).belowN (Below.drew (Below.refl _ _))
  have hk1 := hbk.belowN hb0
  obtain ⟨k0, k1, k2, k3, k4, k5⟩ := hk1.c3
  obtain ⟨k6, k7, k8, k9, k10, k11⟩ := (hk1.alloc (.cells #[.int .i64 0, .slice none 0 0, .int .i64 0] 162)).c3
  rw [hW1] at hl1 hl2 k0 k1 k2 k6 k7 k8 hbR hX4'
  have he1 : (E == 0) = false := by simpa using he
  have he2 : (E != 0) = true := by simpa using he
  clear HL hown hkey hh hV hL hE he hx hy
  go_enter Tryz.func86, Tryz.ntmps86
  go_wp2
  go_region
  all_goals go_wp2_with (go_at_call 129; go_must ((with_reducible refine (HRK.out _ hbR).mono ?_); rintro vv w9 ⟨a9, n9, c9, rfl, hT9, hb9⟩; have hB9 := hbR.trans (hb9.mono hbR.size); have hX9 : Blk w9 (w.heap.size + 1 + 1 + 1) 162 #[.int .i64 0, .slice none 0 0, .int .i64 0] := Blk.belowN hX4' hb9; obtain ⟨x0, x1, x2, x3, x4, x5⟩ := hX9.c3; have hX10 := hX9.alloc (.cells #[.int .i64 V, .slice a9 n9 c9] 42); have hB10 := hB9.alloc hB9.size (.cells #[.int .i64 V, .slice a9 n9 c9] 42); obtain ⟨y0, y1, y2, y3, y4, y5⟩ := hX10.c3))
  all_goals have hF := ((hX10.set_ 0 (.int .i64 0)).set_ 1 (.slice none 0 0)).set_ 2 (.int .i64 0)
  all_goals refine bodyPost_ret (results_rowP rfl _ _ (w.heap.size + 1 + 1 + 1) _ #[.int .i64 0, .slice none 0 0, .int .i64 0] (0, 0) _ rfl hF Tryz.underlying162 rfl (by kernel_rfl)) rfl ⟨rfl, ?_⟩
  all_goals exact ((hB10.setCell (p := ⟨w.heap.size + 1 + 1 + 1, 0, none⟩) (by show _ ≤ w.heap.size + 1 + 1 + 1; omega) _).setCell (p := ⟨w.heap.size + 1 + 1 + 1, 1, none⟩) (by show _ ≤ w.heap.size + 1 + 1 + 1; omega) _).setCell (p := ⟨w.heap.size + 1 + 1 + 1, 2, none⟩) (by show _ ≤ w.heap.size + 1 + 1 + 1; omega) _
end Go.Proofs.YtcamcnahkdiefaaGreat
