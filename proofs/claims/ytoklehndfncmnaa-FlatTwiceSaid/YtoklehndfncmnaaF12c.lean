/- Chapter 12: Unroll, Steps. -/
import Derived.Test.YtoklehndfncmnaaF12b
namespace Go.Proofs.Ytoklehndfncmnaa
set_option linter.unusedVariables false
set_option linter.unusedSimpArgs false
open Go.RowKit Go.Shelf
attribute [local go_sem] Oper.semAt_some

/-- what a program is unrolled; how many operations are gone by -/
noncomputable def unrS (regs : Int) (l : List OpD) : List OpD := if checkS regs l = 0 then (fo l).unroll else []
noncomputable def stepsS (regs : Int) (l : List OpD) : Nat := if checkS regs l = 0 then (fo l).bare.gone.length else 0
theorem unrS_good {regs : Int} {f : Fo} (g : Good regs f) : unrS regs f.flat = f.unroll := by unfold unrS; rw [if_pos g.check, fo_flat g.ok]
theorem unrS_bad {regs : Int} {l : List OpD} (h : checkS regs l ≠ 0) : unrS regs l = [] := by unfold unrS; rw [if_neg h]
theorem stepsS_good {regs : Int} {f : Fo} (g : Good regs f) : stepsS regs f.flat = f.steps.length := by unfold stepsS; rw [if_pos g.check, fo_flat g.ok, steps_length]
theorem stepsS_bad {regs : Int} {l : List OpD} (h : checkS regs l ≠ 0) : stepsS regs l = 0 := by unfold stepsS; rw [if_neg h]
def UnrPost (regs : Int) (l : List OpD) (w : World) (e : Ending) (w' : World) : Prop :=
  ∃ a c, e = .returned (.tuple #[.slice a (unrS regs l).length c, .int .i64 (checkS regs l)]) ∧ Own w' w.heap.size 34 a c (unrS regs l) ∧ Below w.heap.size w w'

theorem steps_calls (ac : Option Addr) (n cc : Nat) (w : World) : Calls Try.prog 37 #[.slice ac n cc] w fun e w' => e = .returned (.func (.func 53) #[] #[.pointer (some ⟨w.heap.size, 0, none⟩)]) ∧ w' = w.alloc (.cells #[.slice ac n cc] 26) := by
  go_enter Try.func37, Try.ntmps37
  go_wp2
  go_ret
  exact ⟨rfl, rfl⟩

set_option maxHeartbeats 800000 in
theorem unr_bad (regs : Int) (a : Option Addr) (c : Nat) (l : List OpD) (w : World) (h : At w a l) (hl : l.length ≤ 1000000) (hc : checkS regs l ≠ 0) :
    Calls Try.prog 15 #[.agg #[.int .i64 regs, .slice a l.length c]] w (UnrPost regs l w) := by
  have h1 := h.belowN (below_new12 w (.cells #[.int .i64 regs, .slice a l.length c] 24))
  have hb0 := below_new12 w (.cells #[.int .i64 regs, .slice a l.length c] 24)
  have HP := hide (Code_calls regs a c l _ h1 hl)
  have HU := hide (unrS_bad hc)
  obtain ⟨E, hE⟩ : ∃ E, E = checkS regs l := ⟨_, rfl⟩
  unfold CodePost at HP
  rw [← hE] at HP hc
  have HE := hide hE
  have e1 : (E == 0) = false := by simpa using hc
  have e2 : (E != 0) = true := by simpa using hc
  clear hE hc
  go_enter Try.func15, Try.ntmps15
  go_wp2_with (go_at_call 13; ((with_reducible refine (HP.out).mono ?_); rintro e w1 ⟨a1, c1, rfl, hown1, hb1⟩))
  go_ret2
  unfold UnrPost
  rw [HU.out, ← HE.out]
  exact ⟨none, 0, rfl, Own.none _ _ _, hb0.trans (hb1.mono hb0.size)⟩
set_option maxHeartbeats 800000 in
theorem stp_bad (regs : Int) (a : Option Addr) (c : Nat) (l : List OpD) (w : World) (h : At w a l) (hl : l.length ≤ 1000000) (hc : checkS regs l ≠ 0) :
    Calls Try.prog 17 #[.agg #[.int .i64 regs, .slice a l.length c]] w fun e w' => e = .returned (.tuple #[.int .i64 (stepsS regs l : Int), .int .i64 (checkS regs l)]) ∧ Below w.heap.size w w' := by
  have h1 := h.belowN (below_new12 w (.cells #[.int .i64 regs, .slice a l.length c] 24))
  have hb0 := below_new12 w (.cells #[.int .i64 regs, .slice a l.length c] 24)
  have HP := hide (Code_calls regs a c l _ h1 hl)
  rw [stepsS_bad hc]
  obtain ⟨E, hE⟩ : ∃ E, E = checkS regs l := ⟨_, rfl⟩
  unfold CodePost at HP
  rw [← hE] at HP hc ⊢
  have e1 : (E == 0) = false := by simpa using hc
  have e2 : (E != 0) = true := by simpa using hc
  clear hE hc
  go_enter Try.func17, Try.ntmps17
  go_wp2_with (go_at_call 13; ((with_reducible refine (HP.out).mono ?_); rintro e w1 ⟨a1, c1, rfl, hown1, hb1⟩))
  go_ret2
  exact ⟨rfl, hb0.trans (hb1.mono hb0.size)⟩

/-- What Unroll keeps in a round. -/
def UnI (Bo B0 : Nat) (pre : List OpD) (G : List Nat) (W : World) : Prop :=
  ∃ (a : Option Addr) (n c : Nat), Blk W Bo 22 #[.slice a n c] ∧ Hid (n = (wrs pre).length) ∧ Own W B0 34 a c (wrs pre) ∧ G = Bo :: (a.map (·.block)).toList ∧ a.map (·.block) ≠ some Bo
theorem UnI.foot (Bo B0 : Nat) : Foot (UnI Bo B0) where
  keep := by
    rintro pre G W W' ⟨a, n, c, h1, h2, h3, rfl, h5⟩ hs hk
    exact ⟨a, n, c, (hk _ (by simp)).trans h1, h2, h3.keep (fun k hk' _ => hk k (by rw [hk']; simp)), rfl, h5⟩
  lt := by
    rintro pre G W ⟨a, n, c, h1, h2, h3, rfl, h5⟩ b hb
    simp only [List.mem_cons, Option.mem_toList] at hb
    rcases hb with rfl | hb
    · exact h1.lt
    · exact (h3.blk b hb).2
theorem wrs_snoc (l : List OpD) (x : OpD) : wrs (l ++ [x]) = if x.kind ≠ 7 ∧ x.kind ≠ 0 then wrs l ++ [x] else wrs l := by
  rw [wrs_append]
  by_cases h : x.kind ≠ 7 ∧ x.kind ≠ 0
  · rw [if_pos h]; unfold wrs; rw [List.filter_cons, if_pos (by simp [h.1, h.2])]; rfl
  · rw [if_neg h]; have : wrs [x] = [] := by unfold wrs; rw [List.filter_cons, if_neg (by simp; intro h1; exact Classical.byContradiction fun h2 => h ⟨h1, h2⟩)]; rfl
    rw [this, List.append_nil]
theorem wrs_length (l : List OpD) : (wrs l).length ≤ l.length := List.length_filter_le _ _

set_option maxRecDepth 100000 in
set_option maxHeartbeats 3200000 in
theorem unr_good (regs : Int) (a : Option Addr) (c : Nat) (f : Fo) (w : World) (h : At w a f.flat) (g : Good regs f) :
    Calls Try.prog 15 #[.agg #[.int .i64 regs, .slice a f.flat.length c]] w (UnrPost regs f.flat w) := by
  have hl : f.flat.length ≤ 4096 := g.len
  have h1 := h.belowN (below_new12 w (.cells #[.int .i64 regs, .slice a f.flat.length c] 24))
  have hb0 := below_new12 w (.cells #[.int .i64 regs, .slice a f.flat.length c] 24)
  have HP := hide (Code_calls regs a c f.flat _ h1 (by omega))
  have HU := hide (unrS_good g)
  have HK := hide g.check
  have HG := hide g
  have hcl := g.code_length
  have hgl := g.gone_le
  rw [← steps_length] at hgl
  unfold CodePost at HP
  rw [g.check, codeS_good g] at HP
  clear g
  refine (callsIn_wide (n := 5)).1 ?_
  refine callsIn_of_wp_marks Try.func15 rfl trivial ?_ rfl
  simp only [Try.ntmps15, List.size_toArray, List.length_cons, List.length_nil, Nat.reduceAdd, Nat.reduceSub, Array.replicate_succ, Array.replicate_zero, List.push_toArray, List.append_toArray, List.nil_append, List.cons_append]
  gi_wp2_with (first
    | (refine ⟨trivial, ?_⟩; gi_at_call 13; ((with_reducible refine (callsIn_wide.2 HP.out).mono ?_); rintro e w1 ⟨a1, c1, rfl, hown1, hb1⟩))
    | (refine ⟨trivial, ?_⟩; gi_at_call 37; ((with_reducible refine (callsIn_wide.2 (steps_calls _ _ _ _)).mono ?_); rintro e w2 ⟨rfl, rfl⟩)))
  have hs1 := hb1.size
  simp only [World.size_alloc] at hs1
  have hc1 := ((hown1.at_.belowN (below_new12 w1 (.cells #[.slice none 0 0] 22))).belowN (below_new12 _ (.cells #[.slice a1 (f.bare.code 0).length c1] 26)))
  have hBs := Blk.new (w1.alloc (.cells #[.slice none 0 0] 22)) 26 #[.slice a1 (f.bare.code 0).length c1]
  have hBo := (Blk.new w1 22 #[.slice none 0 0]).alloc (.cells #[.slice a1 (f.bare.code 0).length c1] 26)
  have hBB : Below w.heap.size w ((w1.alloc (.cells #[.slice none 0 0] 22)).alloc (.cells #[.slice a1 (f.bare.code 0).length c1] 26)) := ((hb0.trans (hb1.mono hb0.size)).alloc (by omega) _).alloc (by simp; omega) _
  have hz1 : ∀ g, a1.map (·.block) = some g → g < w1.heap.size := fun g hg => (hown1.blk g hg).2
  obtain ⟨Wb, hWb⟩ : ∃ Wb, Wb = (w1.alloc (.cells #[.slice none 0 0] 22)).alloc (.cells #[.slice a1 (f.bare.code 0).length c1] 26) := ⟨_, rfl⟩
  have hsz : Wb.heap.size = w1.heap.size + 2 := by rw [hWb]; simp
  simp only [World.size_alloc] at hBs
  rw [← hWb] at hc1 hBs hBo hBB ⊢
  have HZ1 := hide hz1
  have HSZ := hide hsz
  have hsz1 : w1.heap.size + 2 ≤ Wb.heap.size := by omega
  have hsz2 : Wb.heap.size ≤ w1.heap.size + 2 := by omega
  have hseq := steps1_seq 4 (by omega) (w1.heap.size + 1) a1 c1 regs f HG.out Wb w1.heap.size hBs hc1 (fun _ => hz1)
  generalize hxs : f.steps.map (·.op) = xs at hseq
  have hxl : xs.length ≤ 65536 * 17 := by rw [← hxs]; simpa using hgl
  have HXS := hide hxs
  generalize hn1 : (f.bare.code 0).length = n1 at *
  clear hxs hWb hown1 hb1 h1 hc1 hz1 hsz hgl hcl hn1
  refine wpIn_rangeFunc_all (F := Fence.wide) rfl (by omega) (gf := 53) (lb := #[.pointer (some ⟨w1.heap.size + 1, 0, none⟩)]) rfl trivial (enters_of Try.func53 (by kernel_rfl) rfl) hseq (fun b hb => ⟨by omega, by omega⟩) (Below.refl _ _) (fun _ => rfl)
    (UnI w1.heap.size Wb.heap.size) (UnI.foot _ _) [w1.heap.size] (fun b hb => by simp at hb; subst hb; omega) ⟨none, 0, 0, hBo, rfl, Own.none _ _ _, rfl, by simp⟩
    (fun x a' W => ∃ b, Wb.heap.size + 1 < b ∧ Blk W b 34 #[.int .i64 x.kind, .int .i64 x.d, .int .i64 x.a, .int .i64 x.b, .int .u64 (x.v.toNat : Int)] ∧ a' = { defers := [], tmps := #[.agg #[.int .i64 regs, .slice a f.flat.length c],
          .pointer (some ⟨w.heap.size, 0, none⟩), .slice none 0 0, .int .i64 0,
          .slice a1 n1 c1, .int .i64 0,
          .pointer (some ⟨w1.heap.size, 0, none⟩), .pointer (some ⟨b, 0, none⟩),
          .tuple #[.slice a1 n1 c1, .int .i64 0],
          .agg #[.int .i64 regs, .slice a f.flat.length c],
          .tuple #[.slice a1 n1 c1, .int .i64 0],
          .slice a1 n1 c1, .int .i64 0, .int .i64 0,
          .bool false, undef, .slice a1 n1 c1,
          .func (.func 53) #[] #[.pointer (some ⟨w1.heap.size + 1, 0, none⟩)], .agg #[.int .i64 x.kind, .int .i64 x.d, .int .i64 x.a, .int .i64 x.b, .int .u64 (x.v.toNat : Int)], undef,
          undef, undef, undef, undef, undef, undef, undef, undef, undef, undef, undef, undef] })
    (fun x a' W W' ⟨b, h1, h2, h3⟩ _ hk => ⟨b, h1, (hk b (by omega)).trans h2, h3⟩) ?assign ?body ?done
  case assign =>
    intro l pre x G W K hi hx hlt hG hK
    gi_wp2
    exact hK _ _ ⟨W.heap.size, hlt, Blk.new W _ _, rfl⟩ (below_new12 W _)
  case body =>
    rintro l pre x G W a' ⟨ao, no, co, hBo', hno, hown, rfl, hne⟩ ⟨b, hb, hbx, rfl⟩ hx hlt hG
    have hpl : pre.length < xs.length := by obtain ⟨t, rfl⟩ := hx; simp
    have hwl := wrs_length pre
    have hnl : no ≤ 65536 * 17 := by rw [hno.out]; omega
    obtain ⟨x0, x1, x2, x3, x4, y0, y1, y2, y3, y4⟩ := hbx.c5
    obtain ⟨o0, o1⟩ := hBo'.c1
    have hbl := hbx.lt
    have HX := hide hx
    have HSN := hide (wrs_snoc pre x)
    have HGG := hide hG
    have hzo : Wb.heap.size ≤ W.heap.size := by omega
    clear hx hG hwl hpl
    rcases kind_cases x with ⟨k7, b7, b0⟩ | ⟨k0, b7, b0⟩ | ⟨k7, k0, b7, b0⟩
    · have n7 : (x.kind != 7) = false := by simp [k7]
      have hs : wrs (pre ++ [x]) = wrs pre := by rw [HSN.out, if_neg (fun h => h.1 k7)]
      have HS := hide hs
      clear hs k7
      gi_wp2
      refine ⟨_, ⟨ao, no, co, hBo', by rw [HS.out]; exact hno, by rw [HS.out]; exact hown, rfl, hne⟩, Turned.refl _ _, fun b hb => .inl hb⟩
    · have n7 : (x.kind != 7) = true := by simp [k0]
      have n0 : (x.kind != 0) = false := by simp [k0]
      have hs : wrs (pre ++ [x]) = wrs pre := by rw [HSN.out, if_neg (fun h => h.2 k0)]
      have HS := hide hs
      clear hs k0
      gi_wp2
      refine ⟨_, ⟨ao, no, co, hBo', by rw [HS.out]; exact hno, by rw [HS.out]; exact hown, rfl, hne⟩, Turned.refl _ _, fun b hb => .inl hb⟩
    · have n7 : (x.kind != 7) = true := by simp [k7]
      have n0 : (x.kind != 0) = true := by simp [k0]
      have hs : wrs (pre ++ [x]) = wrs pre ++ [x] := by rw [HSN.out, if_pos ⟨k7, k0⟩]
      have HS := hide hs
      clear hs k7 k0
      gi_wp2_with (gi_at_builtin; refine wpListIn_push tyO hown x rfl rfl rfl rfl rfl rfl hno.out hzo (by omega) ?_; intro a4 c4 w4 hown4 hg4 hm4; have hBo4 := hBo'.grown hg4 (fun e => hne e.symm); obtain ⟨o0', o1'⟩ := hBo4.c1)
      have hne4 : a4.map (·.block) ≠ some w1.heap.size := by
        rcases hm4 with e | ⟨g', e, hle⟩
        · rw [e]; exact hne
        · rw [e]; intro e'; injection e' with e'; omega
      refine ⟨_, ⟨a4, no + 1, c4, hBo4.set_ 0 _, ?_, ?_, rfl, hne4⟩, ?_, ?_⟩
      · rw [HS.out, List.length_append, ← hno.out]; rfl
      · rw [HS.out]; exact hown4.setCell (by simp; omega) _
      · refine (Turned.ofGrown hg4 (fun k hk => .inl (by rw [hk]; simp))).trans (Turned.ofGrown (F := [w1.heap.size]) (grown_setCell w4 w1.heap.size 0 _) (fun k hk => .inl (by injection hk with hk; simp [hk]))) (fun k hk => .inl (by simp at hk; simp [hk]))
      · intro k hk
        simp only [List.mem_cons, Option.mem_toList] at hk ⊢
        rcases hk with rfl | hk
        · exact .inl (.inl rfl)
        · rcases hm4 with e | ⟨g', e, hle⟩
          · rw [e] at hk; exact .inl (.inr hk)
          · rw [e] at hk; injection hk with hk; exact .inr (by omega)
  case done =>
    rintro G W ⟨ao, no, co, hBo', hno, hown, rfl, hne⟩ hT hK hlt hG
    have hsz' := hT.size
    obtain ⟨o0, o1⟩ := hBo'.c1
    gi_wp2
    refine ⟨by simp, .inl ⟨_, _, rfl, run_takeDeferred hK, ?_⟩⟩
    refine ⟨_, results_tmp2 rfl _ _ _, ?_⟩
    have hxs : wrs xs = f.unroll := by rw [← HXS.out]; exact HG.out.steps_ops
    have hw0 := hb0.size
    simp only [World.size_alloc] at hw0
    unfold UnrPost
    rw [HU.out, HK.out, ← hxs]
    refine ⟨ao, co, by rw [← hno.out]; rfl, ?_, ?_⟩
    · exact (hown.keep (fun k hk _ => World.putObj_heap_other (fun e => hG (by rw [← e, hk]; simp)))).mono (by omega)
    · exact Turned.below (Turned.below hBB hT (fun k hk => by simp at hk; omega) (by omega)) (turned_putObj W Wb.heap.size _) (fun k hk => by simp at hk; omega) (by omega)
theorem Unroll_calls (regs : Int) (a : Option Addr) (c : Nat) (l : List OpD) (w : World) (h : At w a l) (hl : l.length ≤ 1000000) :
    Calls Try.prog 15 #[.agg #[.int .i64 regs, .slice a l.length c]] w (UnrPost regs l w) := by
  by_cases hc : checkS regs l = 0
  · obtain ⟨f, rfl, g⟩ := good_of_check hc
    exact unr_good regs a c f w h g
  · exact unr_bad regs a c l w h hl hc

/-- What Steps keeps in a round. -/
def StN (Bo : Nat) (pre : List OpD) (G : List Nat) (W : World) : Prop := Blk W Bo 3 #[.int .i64 (pre.length : Int)] ∧ G = [Bo]
theorem StN.foot (Bo : Nat) : Foot (StN Bo) where
  keep := by
    rintro pre G W W' ⟨h1, rfl⟩ hs hk
    exact ⟨(hk _ (by simp)).trans h1, rfl⟩
  lt := by
    rintro pre G W ⟨h1, rfl⟩ b hb
    simp only [List.mem_singleton] at hb
    rw [hb]; exact h1.lt

set_option maxRecDepth 100000 in
set_option maxHeartbeats 3200000 in
theorem stp_good (regs : Int) (a : Option Addr) (c : Nat) (f : Fo) (w : World) (h : At w a f.flat) (g : Good regs f) :
    Calls Try.prog 17 #[.agg #[.int .i64 regs, .slice a f.flat.length c]] w fun e w' => e = .returned (.tuple #[.int .i64 (stepsS regs f.flat : Int), .int .i64 (checkS regs f.flat)]) ∧ Below w.heap.size w w' := by
  have hl : f.flat.length ≤ 4096 := g.len
  have h1 := h.belowN (below_new12 w (.cells #[.int .i64 regs, .slice a f.flat.length c] 24))
  have hb0 := below_new12 w (.cells #[.int .i64 regs, .slice a f.flat.length c] 24)
  have HP := hide (Code_calls regs a c f.flat _ h1 (by omega))
  have HG := hide g
  have hcl := g.code_length
  have hgl := g.gone_le
  rw [← steps_length] at hgl
  unfold CodePost at HP
  obtain ⟨xs, hxs⟩ : ∃ xs, xs = f.steps.map (·.op) := ⟨_, rfl⟩
  have hxl : f.steps.length = xs.length := by rw [hxs, List.length_map]
  rw [hxl] at hgl
  rw [g.check, stepsS_good g, hxl]
  rw [g.check, codeS_good g] at HP
  have HXS := hide hxs
  clear g hxs hxl
  refine (callsIn_wide (n := 5)).1 ?_
  refine callsIn_of_wp_marks Try.func17 rfl trivial ?_ rfl
  simp only [Try.ntmps17, List.size_toArray, List.length_cons, List.length_nil, Nat.reduceAdd, Nat.reduceSub, Array.replicate_succ, Array.replicate_zero, List.push_toArray, List.append_toArray, List.nil_append, List.cons_append]
  gi_wp2_with (first
    | (refine ⟨trivial, ?_⟩; gi_at_call 13; ((with_reducible refine (callsIn_wide.2 HP.out).mono ?_); rintro e w1 ⟨a1, c1, rfl, hown1, hb1⟩))
    | (refine ⟨trivial, ?_⟩; gi_at_call 37; ((with_reducible refine (callsIn_wide.2 (steps_calls _ _ _ _)).mono ?_); rintro e w2 ⟨rfl, rfl⟩)))
  have hs1 := hb1.size
  simp only [World.size_alloc] at hs1
  have hc1 := ((hown1.at_.belowN (below_new12 w1 (.cells #[.int .i64 0] 3))).belowN (below_new12 _ (.cells #[.slice a1 (f.bare.code 0).length c1] 26)))
  have hBs := Blk.new (w1.alloc (.cells #[.int .i64 0] 3)) 26 #[.slice a1 (f.bare.code 0).length c1]
  have hBo := (Blk.new w1 3 #[.int .i64 0]).alloc (.cells #[.slice a1 (f.bare.code 0).length c1] 26)
  have hBB : Below w.heap.size w ((w1.alloc (.cells #[.int .i64 0] 3)).alloc (.cells #[.slice a1 (f.bare.code 0).length c1] 26)) := ((hb0.trans (hb1.mono hb0.size)).alloc (by omega) _).alloc (by simp; omega) _
  have hz1 : ∀ g, a1.map (·.block) = some g → g < w1.heap.size := fun g hg => (hown1.blk g hg).2
  obtain ⟨Wb, hWb⟩ : ∃ Wb, Wb = (w1.alloc (.cells #[.int .i64 0] 3)).alloc (.cells #[.slice a1 (f.bare.code 0).length c1] 26) := ⟨_, rfl⟩
  have hsz : Wb.heap.size = w1.heap.size + 2 := by rw [hWb]; simp
  simp only [World.size_alloc] at hBs
  rw [← hWb] at hc1 hBs hBo hBB ⊢
  have HZ1 := hide hz1
  have hsz1 : w1.heap.size + 2 ≤ Wb.heap.size := by omega
  have hsz2 : Wb.heap.size ≤ w1.heap.size + 2 := by omega
  have hseq := steps1_seq 4 (by omega) (w1.heap.size + 1) a1 c1 regs f HG.out Wb w1.heap.size hBs hc1 (fun _ => hz1)
  rw [← HXS.out] at hseq
  generalize hn1 : (f.bare.code 0).length = n1 at *
  clear hWb hown1 hb1 h1 hc1 hz1 hsz hcl hn1
  refine wpIn_rangeFunc_all (F := Fence.wide) rfl (by omega) (gf := 53) (lb := #[.pointer (some ⟨w1.heap.size + 1, 0, none⟩)]) rfl trivial (enters_of Try.func53 (by kernel_rfl) rfl) hseq (fun b hb => ⟨by omega, by omega⟩) (Below.refl _ _) (fun _ => rfl)
    (StN w1.heap.size) (StN.foot _) [w1.heap.size] (fun b hb => by simp at hb; subst hb; omega) ⟨hBo, rfl⟩
    (fun x a' W => a' = { defers := [], tmps := #[.agg #[.int .i64 regs, .slice a f.flat.length c],
          .pointer (some ⟨w.heap.size, 0, none⟩), .int .i64 0, .int .i64 0, .slice a1 n1 c1, .int .i64 0,
          .pointer (some ⟨w1.heap.size, 0, none⟩), .tuple #[.slice a1 n1 c1, .int .i64 0],
          .agg #[.int .i64 regs, .slice a f.flat.length c], .tuple #[.slice a1 n1 c1, .int .i64 0],
          .slice a1 n1 c1, .int .i64 0, .int .i64 0, .bool false, undef, .slice a1 n1 c1,
          .func (.func 53) #[] #[.pointer (some ⟨w1.heap.size + 1, 0, none⟩)], .agg #[.int .i64 x.kind, .int .i64 x.d, .int .i64 x.a, .int .i64 x.b, .int .u64 (x.v.toNat : Int)], undef, undef, undef] })
    (fun x a' W W' h3 _ hk => h3) ?assign ?body ?done
  case assign =>
    intro l pre x G W K hi hx hlt hG hK
    gi_wp2
    exact hK _ _ (by simp) (Below.refl _ W)
  case body =>
    rintro l pre x G W a' ⟨hBo', rfl⟩ rfl hx hlt hG
    have hpl : pre.length < xs.length := by obtain ⟨t, rfl⟩ := hx; simp
    obtain ⟨o0, o1⟩ := hBo'.c1
    clear hx hG
    gi_wp2
    refine ⟨_, ⟨?_, rfl⟩, Turned.ofGrown (F := [w1.heap.size]) (grown_setCell W w1.heap.size 0 _) (fun k hk => .inl (by injection hk with hk; simp [hk])), fun k hk => .inl hk⟩
    have := hBo'.set_ 0 (.int .i64 ((pre.length : Int) + 1))
    rw [List.length_append]
    exact this
  case done =>
    rintro G W ⟨hBo', rfl⟩ hT hK hlt hG
    have hsz' := hT.size
    obtain ⟨o0, o1⟩ := hBo'.c1
    gi_wp2
    refine ⟨by simp, .inl ⟨_, _, rfl, run_takeDeferred hK, ?_⟩⟩
    refine ⟨_, results_tmp2 rfl _ _ _, rfl, ?_⟩
    have hw0 := hb0.size
    simp only [World.size_alloc] at hw0
    exact Turned.below (Turned.below hBB hT (fun k hk => by simp at hk; omega) (by omega)) (turned_putObj W Wb.heap.size _) (fun k hk => by simp at hk; omega) (by omega)
theorem Steps_calls (regs : Int) (a : Option Addr) (c : Nat) (l : List OpD) (w : World) (h : At w a l) (hl : l.length ≤ 1000000) :
    Calls Try.prog 17 #[.agg #[.int .i64 regs, .slice a l.length c]] w fun e w' => e = .returned (.tuple #[.int .i64 (stepsS regs l : Int), .int .i64 (checkS regs l)]) ∧ Below w.heap.size w w' := by
  by_cases hc : checkS regs l = 0
  · obtain ⟨f, rfl, g⟩ := good_of_check hc
    exact stp_good regs a c f w h g
  · exact stp_bad regs a c l w h hl hc
end Go.Proofs.Ytoklehndfncmnaa
