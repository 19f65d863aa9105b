/- Chapter 16: look. -/
import Derived.Laws.ResultCell
import Derived.Laws.Rows
import Derived.Scope
import Derived.Test.YthncfoompoheoaaL16b
namespace Go.Proofs.Ythncfoompoheoaa
set_option linter.unusedVariables false
set_option linter.unusedSimpArgs false
open Go.RowKit Go.Shelf

/-- may it be looked at? -/
def liveE (regs : Int) (l : List OpD) (outs : List Int) : Int := if checkS regs l ≠ 0 then checkS regs l else if outsB regs outs = true then 0 else 2
noncomputable def liveV (regs : Int) (l : List OpD) (outs : List Int) : Lv := (fo l).look regs outs
theorem results_row_tmp {P : Program} {fn : Func} {p u : Tmp} {ty : TypeId} (h : fn.results = #[.cell p ty, .tmp u]) (tmps : Array Value) (w : World) (g : Nat) (t : TypeId) (cs : Array Value) (fr : Nat × Nat) (d : TypeDesc)
    (hp : tmps.getD p undef = .pointer (some ⟨g, 0, none⟩)) (hg : w.heap[g]? = some (.cells cs t fr)) (hu : P.underlying ty = some d) (hd : (match d with | .struct _ | .array _ _ => true | _ => false) = true) (hi : (P.info? ty).map (·.size) = some cs.size) :
    (results fn tmps).run P w = .ok (.tuple #[.agg cs, tmps.getD u undef]) w := by
  rw [results_cell_tmp h, hp]
  simp [asAddr, run_loadVar_row w g t ty cs fr d hg hu hd hi, Result.andThen]
set_option maxRecDepth 100000 in
set_option maxHeartbeats 1600000 in
theorem look_bad (regs : Int) (a : Option Addr) (c : Nat) (l : List OpD) (oa : Option Addr) (oc : Nat) (outs : List Int) (w : World) (h : At w a l) (hl : l.length ≤ 1000000) (hc : checkS regs l ≠ 0) :
    Calls Try.prog 129 #[.agg #[.int .i64 regs, .slice a l.length c], .slice oa outs.length oc] w fun e w' => e = .returned (.tuple #[.agg #[.slice none 0 0, .slice none 0 0, .int .i64 0], .int .i64 (checkS regs l)]) ∧ Below w.heap.size w w' := by
  have hb0 := below_new12 w (.cells #[.int .i64 regs, .slice a l.length c] 24)
  have hb1 := hb0.alloc (by simp) (.cells #[.slice none 0 0, .slice none 0 0, .int .i64 0] 199)
  have hF := Blk.new (w.alloc (.cells #[.int .i64 regs, .slice a l.length c] 24)) 199 #[.slice none 0 0, .slice none 0 0, .int .i64 0]
  simp only [World.size_alloc] at hF
  have h1 := h.belowN hb1
  have hX := (Blk.new w 24 #[.int .i64 regs, .slice a l.length c]).alloc (.cells #[.slice none 0 0, .slice none 0 0, .int .i64 0] 199)
  obtain ⟨r0, r1, r2, r3⟩ := hX.c2
  obtain ⟨f0, f1, f2, f3, f4, f5⟩ := hF.c3
  obtain ⟨E, hE⟩ : ∃ E, checkS regs l = E := ⟨_, rfl⟩
  have HE := hide hE
  have e1 : (E == 0) = false := by rw [← hE]; simpa using hc
  have e2 : (E != 0) = true := by rw [← hE]; simpa using hc
  rw [hE]
  clear hE hc
  go_enter Try.func129, Try.ntmps129
  go_wp2
  refine wp_scope_straight ?_
  go_wp2_with (go_at_call 80; go_must ((with_reducible refine (UnrollR regs a c l _ (unrS regs l) E rfl HE.out h1 (by omega)).mono ?_); rintro e w1 ⟨a1, c1, rfl, hown1, hb2⟩; have hB2 := hb1.trans (hb2.mono hb1.size); have hz2 := hB2.size; have hF1 := hF.belowN hb2; obtain ⟨p0, p1, p2, p3, p4, p5⟩ := hF1.c3))
  try simp only [Exit.then, Exit.inBlock]
  try rw [Exit.noGoto_ret]
  have hF2 := (((hF1.set_ 0 (.slice none 0 0)).set_ 1 (.slice none 0 0)).set_ 2 (.int .i64 0))
  refine bodyPost_ret (results_row_tmp rfl _ _ (w.heap.size + 1) _ #[.slice none 0 0, .slice none 0 0, .int .i64 0] (0, 0) _ rfl hF2 Try.underlying199 rfl (by kernel_rfl)) rfl ⟨rfl, ?_⟩
  exact ((hB2.setCell (by simp) _).setCell (by simp) _).setCell (by simp) _
theorem tyB0 : TyZ Try.prog 138 4 false (.bool false) := TyZ.of (bytes := 1) Try.underlying138 (by kernel_rfl) (by decide) rfl rfl
set_option maxRecDepth 100000 in
set_option maxHeartbeats 3200000 in
theorem look_arg (regs : Int) (a : Option Addr) (c : Nat) (f : Fo) (g : Good regs f) (oa : Option Addr) (oc : Nat) (outs : List Int) (w : World) (h : At w a f.flat) (ho : At w oa outs) (hol : outs.length ≤ 1000000) (hB : outsB regs outs = false) :
    Calls Try.prog 129 #[.agg #[.int .i64 regs, .slice a f.flat.length c], .slice oa outs.length oc] w fun e w' => e = .returned (.tuple #[.agg #[.slice none 0 0, .slice none 0 0, .int .i64 0], .int .i64 2]) ∧ Below w.heap.size w w' := by
  have hl : f.flat.length ≤ 4096 := g.len
  obtain ⟨nr, rfl⟩ : ∃ nr : Nat, regs = nr := ⟨regs.toNat, by have := g.r1; omega⟩
  have hr64 : nr ≤ 64 := by have := g.r2; omega
  have hb0 := below_new12 w (.cells #[.int .i64 nr, .slice a f.flat.length c] 24)
  have hb1 := hb0.alloc (by simp) (.cells #[.slice none 0 0, .slice none 0 0, .int .i64 0] 199)
  have hF := Blk.new (w.alloc (.cells #[.int .i64 nr, .slice a f.flat.length c] 24)) 199 #[.slice none 0 0, .slice none 0 0, .int .i64 0]
  simp only [World.size_alloc] at hF
  have h1 := h.belowN hb1
  have ho1 := ho.belowN hb1
  have hX := (Blk.new w 24 #[.int .i64 nr, .slice a f.flat.length c]).alloc (.cells #[.slice none 0 0, .slice none 0 0, .int .i64 0] 199)
  obtain ⟨r0, r1, r2, r3⟩ := hX.c2
  obtain ⟨f0, f1, f2, f3, f4, f5⟩ := hF.c3
  have HU := hide (unrS_good g)
  have HE := hide g.check
  have hany := outs_any (nr : Int) outs
  rw [hB] at hany
  have HANY := hide hany
  clear hany g hB
  go_enter Try.func129, Try.ntmps129
  go_wp2
  refine wp_scope_straight ?_
  go_wp2_with (first
    | (go_at_call 80; go_must ((with_reducible refine (UnrollR nr a c f.flat _ f.unroll 0 HU.out HE.out h1 (by omega)).mono ?_); rintro e w1 ⟨a1, c1, rfl, hown1, hb2⟩; have hB2 := hb1.trans (hb2.mono hb1.size); have hz2 := hB2.size; have hF1 := hF.belowN hb2; have hX1 := hX.belowN hb2; have ho2 := ho1.belowN hb2; obtain ⟨p0, p1, p2, p3, p4, p5⟩ := hF1.c3; obtain ⟨q0, q1, q2, q3⟩ := hX1.c2; have hs1 := hb2.size; simp only [World.size_alloc] at hs1))
    | (at_make; go_must (refine wpList_mk tyB0 (B := w.heap.size) (n := nr) rfl rfl rfl rfl rfl rfl hz2 (by omega) ?_; intro w2 hown2 hg2; have hb3 := below_of_grown hg2; have hs2 := hg2.size; have hn2 := (below_new12 w2 (.cells #[.slice (some ⟨w1.heap.size, 0, none⟩) nr nr] 138)).alloc (by simp) (.cells #[.func (.func 143) #[] #[.pointer (some ⟨w2.heap.size, 0, none⟩)]] 211); have hX4 := (hX1.belowN hb3).belowN hn2; have hF4 := (hF1.belowN hb3).belowN hn2; have ho4 := (ho2.belowN hb3).belowN hn2; have hB4 := (hB2.trans (hb3.mono hz2)).trans (hn2.mono (hB2.trans (hb3.mono hz2)).size)))
    | (go_at_call 144; go_must ((with_reducible refine (ContOuts w.heap.size (fun k => !(decide (0 ≤ k) && decide (k < (nr : Int)))) _ _ outs _ ho4 hol (fun x w' _ hb => Look2_calls nr x w.heap.size _ w' (hX4.belowN hb))).mono ?_); rw [HANY.out]; rintro e w5 ⟨rfl, hb5⟩; have hB5 := hB4.trans (hb5.mono hB4.size); have hz5 := hB5.size; have hF5 := hF4.belowN hb5; obtain ⟨y0, y1, y2, y3, y4, y5⟩ := hF5.c3)))
  try simp only [Exit.then, Exit.inBlock]
  try rw [Exit.noGoto_ret]
  have hF6 := (((hF5.set_ 0 (.slice none 0 0)).set_ 1 (.slice none 0 0)).set_ 2 (.int .i64 0))
  refine bodyPost_ret (results_row_tmp rfl _ _ (w.heap.size + 1) _ #[.slice none 0 0, .slice none 0 0, .int .i64 0] (0, 0) _ rfl hF6 Try.underlying199 rfl (by kernel_rfl)) rfl ⟨rfl, ?_⟩
  exact ((hB5.setCell (by simp) _).setCell (by simp) _).setCell (by simp) _
theorem At.getBo {w wr : World} {a : Option Addr} {l : List Bool} (h : At w a l) (hb : Below w.heap.size w wr) {k : Nat} (hk : k < l.length) :
    ∃ b off x, a = some ⟨b, off, none⟩ ∧ Hid (l[k]? = some x) ∧ wr.cell? ⟨b, off + k, none⟩ = some (.bool x) := by
  obtain ⟨b, off, x, e, hx, hc⟩ := (h.belowN hb).get hk
  have := hc 0 _ rfl
  exact ⟨b, off, x, e, hx, by simpa [Flat.n] using this⟩
end Go.Proofs.Ythncfoompoheoaa
