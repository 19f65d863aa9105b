/- Chapter 16: look for any input; Needed, First, Count; the document's Reads. -/
import Derived.Test.YthncfoompoheoaaL16e
namespace Go.Proofs.Ythncfoompoheoaa
set_option linter.unusedVariables false
set_option linter.unusedSimpArgs false
open Go.RowKit Go.Shelf
/-- what is found -/
noncomputable def liveO (regs : Int) (l : List OpD) (outs : List Int) : List Bool := if liveE regs l outs = 0 then (liveV regs l outs).ops else []
noncomputable def liveF (regs : Int) (l : List OpD) (outs : List Int) : List Int := if liveE regs l outs = 0 then trues (liveV regs l outs).want else []
noncomputable def liveC (regs : Int) (l : List OpD) (outs : List Int) : Nat := if liveE regs l outs = 0 then (liveV regs l outs).count else 0
theorem live_bad {regs : Int} {l : List OpD} {outs : List Int} (h : liveE regs l outs ≠ 0) : liveO regs l outs = [] ∧ liveF regs l outs = [] ∧ liveC regs l outs = 0 := by
  unfold liveO liveF liveC; simp only [if_neg h, and_self]
theorem live_good {regs : Int} {f : Fo} (g : Good regs f) {outs : List Int} (h : outsB regs outs = true) : liveE regs f.flat outs = 0 ∧ liveO regs f.flat outs = (f.look regs outs).ops ∧ liveF regs f.flat outs = trues (f.look regs outs).want ∧ liveC regs f.flat outs = (f.look regs outs).count := by
  have h0 : liveE regs f.flat outs = 0 := by unfold liveE; rw [if_neg (by rw [g.check]; simp), if_pos h]
  have h1 : liveV regs f.flat outs = f.look regs outs := by unfold liveV; rw [fo_flat g.ok]
  unfold liveO liveF liveC
  simp only [h1, h0, if_true, and_self]
theorem look_ops_length (f : Fo) (regs : Int) (outs : List Int) : (f.look regs outs).ops.length = f.size := by unfold Fo.look; rw [(lvRun_lengths _ _).2.1]; simp [lv0]
def LookPost (O : List Bool) (Fi : List Int) (C : Nat) (E : Int) (w : World) (e : Ending) (w' : World) : Prop :=
  ∃ ap cp ai ci, e = .returned (.tuple #[.agg #[.slice ap O.length cp, .slice ai Fi.length ci, .int .i64 (C : Int)], .int .i64 E]) ∧ Own w' w.heap.size 4 ap cp O ∧ Own w' w.heap.size 3 ai ci Fi ∧ Below w.heap.size w w'
theorem LookL_calls (regs : Int) (a : Option Addr) (c : Nat) (l : List OpD) (oa : Option Addr) (oc : Nat) (outs : List Int) (w : World) (h : At w a l) (hl : l.length ≤ 1000000) (ho : At w oa outs) (hol : outs.length ≤ 1000000) :
    Calls Try.prog 129 #[.agg #[.int .i64 regs, .slice a l.length c], .slice oa outs.length oc] w (LookPost (liveO regs l outs) (liveF regs l outs) (liveC regs l outs) (liveE regs l outs) w) := by
  by_cases hc : checkS regs l = 0
  · obtain ⟨f, rfl, g⟩ := good_of_check hc
    by_cases hB : outsB regs outs = true
    · obtain ⟨e0, e1, e2, e3⟩ := live_good g hB
      rw [e0, e1, e2, e3]
      refine (look_good regs a c f g oa oc outs w h ho hol hB).mono ?_
      rintro e w' ⟨ap, cp, ai, ci, rfl, h1, h2, h3⟩
      unfold LookPost
      rw [look_ops_length]
      exact ⟨ap, cp, ai, ci, rfl, h1, h2, h3⟩
    · have hB' : outsB regs outs = false := by simpa using hB
      have h2 : liveE regs f.flat outs = 2 := by unfold liveE; rw [if_neg (by rw [hc]; simp), if_neg hB]
      obtain ⟨e1, e2, e3⟩ := live_bad (regs := regs) (l := f.flat) (outs := outs) (by rw [h2]; decide)
      rw [e1, e2, e3, h2]
      refine (look_arg regs a c f g oa oc outs w h ho hol hB').mono ?_
      rintro e w' ⟨rfl, hb⟩
      exact ⟨none, 0, none, 0, rfl, Own.none _ _ _, Own.none _ _ _, hb⟩
  · have h2 : liveE regs l outs = checkS regs l := by unfold liveE; rw [if_pos hc]
    obtain ⟨e1, e2, e3⟩ := live_bad (regs := regs) (l := l) (outs := outs) (by rw [h2]; exact hc)
    rw [e1, e2, e3, h2]
    refine (look_bad regs a c l oa oc outs w h hl hc).mono ?_
    rintro e w' ⟨rfl, hb⟩
    exact ⟨none, 0, none, 0, rfl, Own.none _ _ _, Own.none _ _ _, hb⟩
set_option maxHeartbeats 800000 in
theorem Needed_calls (regs : Int) (a : Option Addr) (c : Nat) (l : List OpD) (oa : Option Addr) (oc : Nat) (outs : List Int) (w : World) (O : List Bool) (Fi : List Int) (C : Nat) (E : Int) (hO : liveO regs l outs = O) (hF : liveF regs l outs = Fi) (hC : liveC regs l outs = C) (hE : liveE regs l outs = E) (h : At w a l) (hl : l.length ≤ 1000000) (ho : At w oa outs) (hol : outs.length ≤ 1000000) :
    Calls Try.prog 86 #[.agg #[.int .i64 regs, .slice a l.length c], .slice oa outs.length oc] w fun e w' => (∃ ap cp, e = .returned (.tuple #[.slice ap O.length cp, .int .i64 E]) ∧ Own w' w.heap.size 4 ap cp O) ∧ Below w.heap.size w w' := by
  have hb0 := below_new12 w (.cells #[.int .i64 regs, .slice a l.length c] 24)
  have HL := hide (LookL_calls regs a c l oa oc outs _ (h.belowN hb0) hl (ho.belowN hb0) hol)
  rw [hO, hF, hC, hE] at HL
  clear hO hF hC hE
  go_enter Try.func86, Try.ntmps86
  go_wp2_with (go_at_call 129; go_must ((with_reducible refine (HL.out).mono ?_); rintro e w1 ⟨ap, cp, ai, ci, rfl, hown1, hown2, hb1⟩; have hB1 := hb0.trans (hb1.mono hb0.size); have hs1 := hB1.size))
  go_ret2
  exact ⟨⟨ap, cp, rfl, (hown1.mono hb0.size).alloc _⟩, hB1.alloc hs1 _⟩
theorem bOf_a {k : Int} (h : bOf k = true) : aOf k = true := b_a h
set_option maxHeartbeats 1600000 in
theorem Reads7_calls (x : OpD) (w : World) : Calls Try.prog 131 #[.agg #[.int .i64 x.kind, .int .i64 x.d, .int .i64 x.a, .int .i64 x.b, .int .u64 (x.v.toNat : Int)]] w (ReadsPost w x) := by
  have hb0 := below_new12 w (.cells #[.int .i64 x.kind, .int .i64 x.d, .int .i64 x.a, .int .i64 x.b, .int .u64 (x.v.toNat : Int)] 99)
  have hX := Blk.new w 99 #[.int .i64 x.kind, .int .i64 x.d, .int .i64 x.a, .int .i64 x.b, .int .u64 (x.v.toNat : Int)]
  have HA := hide (Asks_calls x.kind)
  obtain ⟨A, hA⟩ : ∃ A, aOf x.kind = A := ⟨_, rfl⟩
  obtain ⟨B, hB⟩ : ∃ B, bOf x.kind = B := ⟨_, rfl⟩
  obtain ⟨D, hD⟩ : ∃ D, dOf x.kind = D := ⟨_, rfl⟩
  obtain ⟨V, hV⟩ : ∃ V, vOf x.kind = V := ⟨_, rfl⟩
  rw [hA, hB, hD, hV] at HA
  have hR : Hid (readsL x = (if A = true then [x.a] else []) ++ (if B = true then [x.b] else [])) := by
    show _ = _
    unfold readsL
    rw [hA, hB]
    cases hB' : B
    · cases A <;> simp
    · have := b_a (hB.trans hB'); rw [hA] at this; subst this; simp
  have hAB : A = false → B = false := fun e => by rw [← hA] at e; cases h : B with | false => rfl | true => exact absurd (b_a (hB.trans h)) (by rw [e]; decide)
  have hn0 : ∀ (W : World) (o : Obj), w.heap.size ≤ W.heap.size → Own ((W.alloc o).alloc (.cells #[] 3)) w.heap.size 3 (some ⟨W.heap.size + 1, 0, none⟩) 0 ([] : List Int) := fun W o h => by
    have := Own.new (B := w.heap.size) (W.alloc o) (by simp; omega) 3 Int
    simpa using this
  clear hA hB hD hV
  unfold ReadsPost
  obtain ⟨rfl, rfl⟩ | ⟨rfl, rfl⟩ | ⟨rfl, rfl⟩ : (A = false ∧ B = false) ∨ (A = true ∧ B = false) ∨ (A = true ∧ B = true) := by cases A <;> cases B <;> simp at hAB ⊢
  · clear hAB
    simp only [if_true, if_false, Bool.false_eq_true, List.nil_append, List.append_nil, List.singleton_append] at hR
    go_enter Try.func131, Try.ntmps131
    go_wp2_with (first
      | (go_at_call 65; go_must ((with_reducible refine (HA.out _).mono ?_); rintro e w1 ⟨rfl, hb1⟩; have hX1 := hX.belowN hb1; obtain ⟨x0, x1, x2, x3, x4, x5, x6, x7, x8, x9⟩ := hX1.c5; have hB1 := hb0.trans (hb1.mono hb0.size); have hs1 := hB1.size; have hl1 := hX1.lt))
      | (have hgd := hown3; at_builtin; go_must (refine wpList_push tyI hown3 x.b rfl rfl rfl rfl rfl rfl rfl (by omega) (by simp) ?_; intro a4 c4 w4 hown4 hg4 _))
      | (at_builtin; go_must (refine wpList_push tyI (hn0 _ _ hs1) x.a rfl rfl rfl rfl rfl (by simp) rfl (by simp; omega) (by simp) ?_; intro a3 c3 w3 hown3 hg3 _; have hg3' := hg3.size; simp only [World.size_alloc] at hg3'; have hX3 := ((hX1.alloc _).alloc _).grown hg3 (by simp <;> omega); obtain ⟨y0, y1, y2, y3, y4, y5, y6, y7, y8, y9⟩ := hX3.c5; have hl3 := hX3.lt; have hV3 := ((Blk.new w1 111 #[.bool D, .bool false, .bool false, .bool V]).alloc (.cells #[] 3)).grown hg3 (by simp); obtain ⟨z0, z1, z2, z3, z4, z5, z6, z7⟩ := hV3.c4; have hl4 := hV3.lt)))
    go_ret
    rw [hR.out]
    first
      | (refine ⟨_, _, rfl, hown4, below_push (below_push (((hB1.alloc hs1 _).alloc (by simp; omega) _)) (hn0 _ _ hs1) hg3 (by simp; omega)) hown3 hg4 (by omega)⟩)
      | (refine ⟨_, _, rfl, hown3, below_push (((hB1.alloc hs1 _).alloc (by simp; omega) _)) (hn0 _ _ hs1) hg3 (by simp; omega)⟩)
      | (refine ⟨_, _, rfl, hn0 _ _ hs1, ((hB1.alloc hs1 _).alloc (by simp; omega) _)⟩)
  · clear hAB
    simp only [if_true, if_false, Bool.false_eq_true, List.nil_append, List.append_nil, List.singleton_append] at hR
    go_enter Try.func131, Try.ntmps131
    go_wp2_with (first
      | (go_at_call 65; go_must ((with_reducible refine (HA.out _).mono ?_); rintro e w1 ⟨rfl, hb1⟩; have hX1 := hX.belowN hb1; obtain ⟨x0, x1, x2, x3, x4, x5, x6, x7, x8, x9⟩ := hX1.c5; have hB1 := hb0.trans (hb1.mono hb0.size); have hs1 := hB1.size; have hl1 := hX1.lt))
      | (have hgd := hown3; at_builtin; go_must (refine wpList_push tyI hown3 x.b rfl rfl rfl rfl rfl rfl rfl (by omega) (by simp) ?_; intro a4 c4 w4 hown4 hg4 _))
      | (at_builtin; go_must (refine wpList_push tyI (hn0 _ _ hs1) x.a rfl rfl rfl rfl rfl (by simp) rfl (by simp; omega) (by simp) ?_; intro a3 c3 w3 hown3 hg3 _; have hg3' := hg3.size; simp only [World.size_alloc] at hg3'; have hX3 := ((hX1.alloc _).alloc _).grown hg3 (by simp <;> omega); obtain ⟨y0, y1, y2, y3, y4, y5, y6, y7, y8, y9⟩ := hX3.c5; have hl3 := hX3.lt; have hV3 := ((Blk.new w1 111 #[.bool D, .bool true, .bool false, .bool V]).alloc (.cells #[] 3)).grown hg3 (by simp); obtain ⟨z0, z1, z2, z3, z4, z5, z6, z7⟩ := hV3.c4; have hl4 := hV3.lt)))
    go_ret
    rw [hR.out]
    first
      | (refine ⟨_, _, rfl, hown4, below_push (below_push (((hB1.alloc hs1 _).alloc (by simp; omega) _)) (hn0 _ _ hs1) hg3 (by simp; omega)) hown3 hg4 (by omega)⟩)
      | (refine ⟨_, _, rfl, hown3, below_push (((hB1.alloc hs1 _).alloc (by simp; omega) _)) (hn0 _ _ hs1) hg3 (by simp; omega)⟩)
      | (refine ⟨_, _, rfl, hn0 _ _ hs1, ((hB1.alloc hs1 _).alloc (by simp; omega) _)⟩)
  · clear hAB
    simp only [if_true, if_false, Bool.false_eq_true, List.nil_append, List.append_nil, List.singleton_append] at hR
    go_enter Try.func131, Try.ntmps131
    go_wp2_with (first
      | (go_at_call 65; go_must ((with_reducible refine (HA.out _).mono ?_); rintro e w1 ⟨rfl, hb1⟩; have hX1 := hX.belowN hb1; obtain ⟨x0, x1, x2, x3, x4, x5, x6, x7, x8, x9⟩ := hX1.c5; have hB1 := hb0.trans (hb1.mono hb0.size); have hs1 := hB1.size; have hl1 := hX1.lt))
      | (have hgd := hown3; at_builtin; go_must (refine wpList_push tyI hown3 x.b rfl rfl rfl rfl rfl rfl rfl (by omega) (by simp) ?_; intro a4 c4 w4 hown4 hg4 _))
      | (at_builtin; go_must (refine wpList_push tyI (hn0 _ _ hs1) x.a rfl rfl rfl rfl rfl (by simp) rfl (by simp; omega) (by simp) ?_; intro a3 c3 w3 hown3 hg3 _; have hg3' := hg3.size; simp only [World.size_alloc] at hg3'; have hX3 := ((hX1.alloc _).alloc _).grown hg3 (by simp <;> omega); obtain ⟨y0, y1, y2, y3, y4, y5, y6, y7, y8, y9⟩ := hX3.c5; have hl3 := hX3.lt; have hV3 := ((Blk.new w1 111 #[.bool D, .bool true, .bool true, .bool V]).alloc (.cells #[] 3)).grown hg3 (by simp); obtain ⟨z0, z1, z2, z3, z4, z5, z6, z7⟩ := hV3.c4; have hl4 := hV3.lt)))
    go_ret
    rw [hR.out]
    first
      | (refine ⟨_, _, rfl, hown4, below_push (below_push (((hB1.alloc hs1 _).alloc (by simp; omega) _)) (hn0 _ _ hs1) hg3 (by simp; omega)) hown3 hg4 (by omega)⟩)
      | (refine ⟨_, _, rfl, hown3, below_push (((hB1.alloc hs1 _).alloc (by simp; omega) _)) (hn0 _ _ hs1) hg3 (by simp; omega)⟩)
      | (refine ⟨_, _, rfl, hn0 _ _ hs1, ((hB1.alloc hs1 _).alloc (by simp; omega) _)⟩)
end Go.Proofs.Ythncfoompoheoaa
