/- Chapter 16: look, where all is well.. -/
import Derived.Test.YthncfoompoheoaaL16d
import Derived.Test.YthncfoompoheoaaRf2
import Derived.Stop.RegionWithIn
namespace Go.Proofs.Ythncfoompoheoaa
set_option linter.unusedVariables false
set_option linter.unusedSimpArgs false
open Go.RowKit Go.Shelf
attribute [local go_sem] Oper.semAt_some
theorem bwN_split (l : List Int) : ∀ (n : Nat) (pre : List (Int × Int)) (p : Int × Int) (t : List (Int × Int)), bwN l n = pre ++ p :: t → ∃ k, pre.length + (k + 1) = n ∧ p = ((k : Int), (l[k]?).getD 0) := by
  intro n
  induction n with
  | zero => intro pre p t h; simp [bwN] at h
  | succ n ih =>
    intro pre p t h
    cases pre with
    | nil => simp only [bwN, List.nil_append, List.cons.injEq] at h; exact ⟨n, by simp, h.1.symm⟩
    | cons q pre =>
      simp only [bwN, List.cons_append, List.cons.injEq] at h
      obtain ⟨k, h1, h2⟩ := ih pre p t h.2
      exact ⟨k, by rw [List.length_cons]; omega, h2⟩
theorem bwN_length (l : List Int) (n : Nat) : (bwN l n).length = n := by
  induction n with
  | zero => rfl
  | succ n ih => simp [bwN, ih]
theorem lvRun_drop {Z : List (Nat × OpD)} {k : Nat} {p : Nat × OpD} (h : Z[k]? = some p) (s : Lv) : lvRun (Z.drop k) s = lvStep p (lvRun (Z.drop (k + 1)) s) := by rw [drop_at h]; rfl
/-- What look keeps in a round. -/
def LkI (B gW gO gF nr n : Nat) (Z : List (Nat × OpD)) (s0 : Lv) (pre : List (Int × Int)) (G : List Nat) (W : World) : Prop :=
  ∃ (k : Nat) (s : Lv), Hid (pre.length + k = Z.length) ∧ Hid (s = lvRun (Z.drop k) s0) ∧ Own W B 4 (some ⟨gW, 0, none⟩) nr s.want ∧ Own W B 4 (some ⟨gO, 0, none⟩) n s.ops ∧
    Blk W gF 199 #[.slice (some ⟨gO, 0, none⟩) n n, .slice none 0 0, .int .i64 (s.count : Int)] ∧ G = [gW, gO, gF]
theorem LkI.foot (B gW gO gF nr n : Nat) (Z : List (Nat × OpD)) (s0 : Lv) : Foot (LkI B gW gO gF nr n Z s0) where
  keep := by
    rintro pre G W W' ⟨k, s, h1, h2, h3, h4, h5, rfl⟩ hs hk
    exact ⟨k, s, h1, h2, h3.keep (fun q hq _ => hk q (by simp at hq; simp [hq])), h4.keep (fun q hq _ => hk q (by simp at hq; simp [hq])), (hk _ (by simp)).trans h5, rfl⟩
  lt := by
    rintro pre G W ⟨k, s, h1, h2, h3, h4, h5, rfl⟩ b hb
    simp only [List.mem_cons, List.not_mem_nil, or_false] at hb
    rcases hb with rfl | rfl | rfl
    · exact (h3.blk _ rfl).2
    · exact (h4.blk _ rfl).2
    · exact h5.lt
/-- the numbers of what is wanted, of the first k registers -/
def truesK (w : List Bool) (k : Nat) : List Int := ((List.range k).filter (fun i => (w[i]?).getD false)).map (fun (i : Nat) => (i : Int))
theorem truesK_succ (w : List Bool) (k : Nat) : truesK w (k + 1) = match w[k]? with | some true => truesK w k ++ [(k : Int)] | _ => truesK w k := by
  unfold truesK
  rw [List.range_succ, List.filter_append, List.map_append]
  rcases h : w[k]? with _ | _ | _ <;> simp [List.filter_cons, h]
theorem Good.zl_at {regs : Int} {f : Fo} (g : Good regs f) {k : Nat} (hk : k < f.wr) : ∃ i op, f.zl[k]? = some (i, op) ∧ (f.plI 0)[k]? = some (i : Int) ∧ f.flat[i]? = some op ∧ i < f.flat.length ∧ op ∈ f.unroll := by
  obtain ⟨h1, h2⟩ := f.pls_at g.ok 0 f.flat [] [] (by simp) rfl
  have hp : k < (f.pls 0).length := by rw [Fo.pls_length]; exact hk
  have hu : k < f.unroll.length := by rw [Fo.unroll_length]; exact hk
  have e1 := congrArg (fun l => l[k]?) h1
  simp only [List.getElem?_map, List.getElem?_eq_getElem hp, List.getElem?_eq_getElem hu, Option.map_some] at e1
  refine ⟨(f.pls 0)[k], f.unroll[k], ?_, ?_, by simpa using e1, ?_, List.getElem_mem _⟩
  · unfold Fo.zl; rw [List.getElem?_zip_eq_some]; exact ⟨List.getElem?_eq_getElem hp, List.getElem?_eq_getElem hu⟩
  · unfold Fo.plI; rw [List.getElem?_map, List.getElem?_eq_getElem hp]; rfl
  · have := (h2 _ (List.getElem_mem hp)).2; unfold Fo.size at this; omega
theorem InR.dest {regs : Int} {x : OpD} (h : InR regs x) : 0 ≤ x.d ∧ x.d < regs := by unfold InR at h; omega
theorem InR.reads {nr : Nat} {x : OpD} (h : InR nr x) : ∀ i ∈ readsL x, 0 ≤ i ∧ i.toNat < nr := by
  intro i hi
  unfold InR at h
  rcases mem_reads.1 hi with ⟨_, rfl⟩ | ⟨_, _, rfl⟩ <;> omega
set_option maxRecDepth 100000 in
set_option maxHeartbeats 6400000 in
theorem look_good (regs : Int) (a : Option Addr) (c : Nat) (f : Fo) (g : Good regs f) (oa : Option Addr) (oc : Nat) (outs : List Int) (w : World) (h : At w a f.flat) (ho : At w oa outs) (hol : outs.length ≤ 1000000) (hB : outsB regs outs = true) :
    Calls Try.prog 129 #[.agg #[.int .i64 regs, .slice a f.flat.length c], .slice oa outs.length oc] w fun e w' => ∃ ap cp ai ci, e = .returned (.tuple #[.agg #[.slice ap f.size cp, .slice ai (trues (f.look regs outs).want).length ci, .int .i64 ((f.look regs outs).count : Int)], .int .i64 0]) ∧
      Own w' w.heap.size 4 ap cp (f.look regs outs).ops ∧ Own w' w.heap.size 3 ai ci (trues (f.look regs outs).want) ∧ Below w.heap.size w w' := by
  have hl : f.flat.length ≤ 4096 := g.len
  obtain ⟨nr, rfl⟩ : ∃ nr : Nat, regs = nr := ⟨regs.toNat, by have := g.r1; omega⟩
  have hr64 : nr ≤ 64 := by have := g.r2; omega
  have hb0 := below_new12 w (.cells #[.int .i64 nr, .slice a f.flat.length c] 24)
  have hb1 := hb0.alloc (by simp) (.cells #[.slice none 0 0, .slice none 0 0, .int .i64 0] 199)
  have hF := Blk.new (w.alloc (.cells #[.int .i64 nr, .slice a f.flat.length c] 24)) 199 #[.slice none 0 0, .slice none 0 0, .int .i64 0]
  simp only [World.size_alloc] at hF
  have h1 := h.belowN hb1
  have ho1 := ho.belowN hb1
  have hX := (Blk.new w 24 #[.int .i64 nr, .slice a f.flat.length c]).alloc (.cells #[.slice none 0 0, .slice none 0 0, .int .i64 0] 199)
  obtain ⟨r0, r1, r2, r3⟩ := hX.c2
  obtain ⟨f0, f1, f2, f3, f4, f5⟩ := hF.c3
  have HU := hide (unrS_good g)
  have HE := hide g.check
  have hany := outs_any (nr : Int) outs
  rw [hB] at hany
  have HANY := hide hany
  have HG := hide g
  have HOUT := hide (show ∀ i ∈ outs, 0 ≤ i ∧ i.toNat < nr by intro i hi; have h0 := List.all_eq_true.1 (show outs.all (fun k => decide (0 ≤ k) && decide (k < (nr : Int))) = true from hB) i hi; simp at h0; omega)
  clear hany g hB
  refine (callsIn_wide (n := 5)).1 ?_
  refine callsIn_of_wp_marks Try.func129 rfl trivial ?_ rfl
  simp only [Try.ntmps129, List.size_toArray, List.length_cons, List.length_nil, Nat.reduceAdd, Nat.reduceSub, Array.replicate_succ, Array.replicate_zero, List.push_toArray, List.append_toArray, List.nil_append, List.cons_append]
  gi_wp2
  refine wpIn_wide.2 (wp_scope_straight ?_)
  go_wp2_with (first
    | (go_at_call 80; go_must ((with_reducible refine (UnrollR nr a c f.flat _ f.unroll 0 HU.out HE.out h1 (by omega)).mono ?_); rintro e w1 ⟨a1, c1, rfl, hown1, hb2⟩; have hB2 := hb1.trans (hb2.mono hb1.size); have hz2 := hB2.size; have hF1 := hF.belowN hb2; have hX1 := hX.belowN hb2; have ho2 := ho1.belowN hb2; have h2 := h1.belowN hb2; obtain ⟨p0, p1, p2, p3, p4, p5⟩ := hF1.c3; obtain ⟨q0, q1, q2, q3⟩ := hX1.c2; have hs1 := hb2.size; simp only [World.size_alloc] at hs1))
    | (have hgd := hown6; at_make; go_must (refine wpList_mk tyB0 (B := w.heap.size) (n := f.flat.length) rfl rfl rfl rfl rfl rfl hB6.size (by omega) ?_; intro w7 hown7 hg7; have hb7 := below_of_grown hg7; have hs7 := hg7.size; have hn7 := below_new12 w7 (.cells #[.slice (some ⟨w6.heap.size, 0, none⟩) f.flat.length f.flat.length, .slice none 0 0, .int .i64 0] 199); have hX8 := (hX6.belowN hb7).belowN hn7; have hW8 := (hW6.belowN hb7).belowN hn7; have hM8 := (hM6.belowN hb7).belowN hn7; have hown8 := (hown6.belowN hb7).belowN hn7; have hops8 := hown7.belowN hn7; have h8 := (h6.belowN hb7).belowN hn7; have hF8 := Blk.new w7 199 #[.slice (some ⟨w6.heap.size, 0, none⟩) f.flat.length f.flat.length, .slice none 0 0, .int .i64 0]; have hB8 := (hB6.trans (hb7.mono hB6.size)).trans (hn7.mono (hB6.trans (hb7.mono hB6.size)).size); have hR8 := (hF6.belowN hb7).belowN hn7; obtain ⟨v0, v1, v2, v3⟩ := hX8.c2))
    | (at_make; refine wpList_mk tyB0 (B := w.heap.size) (n := nr) rfl rfl rfl rfl rfl rfl hz2 (by omega) ?_; intro w2 hown2 hg2; have hb3 := below_of_grown hg2; have hs2 := hg2.size; have hn2 := (below_new12 w2 (.cells #[.slice (some ⟨w1.heap.size, 0, none⟩) nr nr] 138)).alloc (by simp) (.cells #[.func (.func 143) #[] #[.pointer (some ⟨w2.heap.size, 0, none⟩)]] 211); have hX4 := (hX1.belowN hb3).belowN hn2; have hF4 := (hF1.belowN hb3).belowN hn2; have ho4 := (ho2.belowN hb3).belowN hn2; have hB4 := (hB2.trans (hb3.mono hz2)).trans (hn2.mono (hB2.trans (hb3.mono hz2)).size); have hW4 := (Blk.new w2 138 #[.slice (some ⟨w1.heap.size, 0, none⟩) nr nr]).alloc (.cells #[.func (.func 143) #[] #[.pointer (some ⟨w2.heap.size, 0, none⟩)]] 211); have hM4 := Blk.new (w2.alloc (.cells #[.slice (some ⟨w1.heap.size, 0, none⟩) nr nr] 138)) 211 #[.func (.func 143) #[] #[.pointer (some ⟨w2.heap.size, 0, none⟩)]]; simp only [World.size_alloc] at hM4; have hown4 := hown2.belowN hn2; have h4 := (h2.belowN hb3).belowN hn2)
    | (go_at_call 144; go_must ((with_reducible refine (ContOuts w.heap.size (fun k => !(decide (0 ≤ k) && decide (k < (nr : Int)))) _ _ outs _ ho4 hol (fun x w' _ hb => Look2_calls nr x w.heap.size _ w' (hX4.belowN hb))).mono ?_); rw [HANY.out]; rintro e w5 ⟨rfl, hb5⟩; have hB5 := hB4.trans (hb5.mono hB4.size); have hz5 := hB5.size; have hF5 := hF4.belowN hb5; have hX5 := hX4.belowN hb5; have h5 := h4.belowN hb5; have ho5 := ho4.belowN hb5; have hown5 := hown4.belowN hb5; have hW5 := hW4.belowN hb5; have hM5 := hM4.belowN hb5; obtain ⟨y0, y1, y2, y3⟩ := hX5.c2; obtain ⟨y4, y5⟩ := hW5.c1; obtain ⟨y6, y7⟩ := hM5.c1; have hlt2 := (hown2.blk _ rfl).2))
    | (go_at_call 143; go_must ((with_reducible refine (Mark_calls w2.heap.size w1.heap.size nr nr w.heap.size (List.replicate nr false) oa _ _ outs w5 rfl ho5 hol hW5 (by omega) (fun hne e => by obtain ⟨bq, oq, e', hq⟩ := ho.lt hne; rw [e'] at e; have e2 : bq = w1.heap.size := (by simpa using e); omega) hown5 (by simp) HOUT.out).mono ?_); rintro e w6 ⟨rfl, hown6, hT6⟩; have hX6 : Blk w6 w.heap.size 24 #[.int .i64 nr, .slice a f.flat.length c] := (hT6.block _ hX5.lt (by simp; omega)).trans hX5; have hW6 : Blk w6 w2.heap.size 138 #[.slice (some ⟨w1.heap.size, 0, none⟩) nr nr] := (hT6.block _ hW5.lt (by simp; omega)).trans hW5; have hM6 : Blk w6 (w2.heap.size + 1) 211 #[.func (.func 143) #[] #[.pointer (some ⟨w2.heap.size, 0, none⟩)]] := (hT6.block _ hM5.lt (by simp; omega)).trans hM5; have hF6 : Blk w6 (w.heap.size + 1) 199 #[.slice none 0 0, .slice none 0 0, .int .i64 0] := (hT6.block _ hF5.lt (by simp; omega)).trans hF5; have hz6 := hT6.size; have h6 : At w6 a f.flat := h5.turned hT6 (fun hne g hg e => by obtain ⟨bq, oq, e', hq⟩ := h.lt hne; rw [e'] at e; simp at hg; have e2 : bq = g := (by simpa using e); omega); have hB6 : Below w.heap.size w w6 := Turned.below hB5 hT6 (by simp; omega) hz5; obtain ⟨z0, z1, z2, z3⟩ := hX6.c2)))
  refine wp_label ?_
  go_wp2_with (first
    | (go_at_call 147; go_must ((with_reducible refine (places_calls a c f.flat.length f rfl _ h8 (by omega) HG.out.ok HG.out.may HG.out.few).mono ?_); rintro e w9 ⟨a9, c9, rfl, hown9, hb9⟩; have hn10 := below_new12 w9 (.cells #[.slice a9 f.wr c9] 25); have hb10 := hb9.trans (hn10.mono hb9.size)))
    | (go_at_call 146; go_must ((with_reducible refine (bw_calls a9 f.wr c9 _).mono ?_); rintro e w10 ⟨rfl, rfl⟩)))
  have hX10 := hX8.belowN hb10
  have hW10 := hW8.belowN hb10
  have hM10 := hM8.belowN hb10
  have hown10 := hown8.belowN hb10
  have hops10 := hops8.belowN hb10
  have h10 := h8.belowN hb10
  have hF10 := hF8.belowN hb10
  have hR10 := hR8.belowN hb10
  have hB10 := hB8.trans (hb10.mono hB8.size)
  have hBs10 := Blk.new w9 25 #[.slice a9 f.wr c9]
  have hc10 := hown9.at_.belowN hn10
  have hs9 := hb9.size
  simp only [World.size_alloc] at hs9
  have hz10 : w9.heap.size < (w9.alloc (.cells #[.slice a9 f.wr c9] 25)).heap.size := by simp
  have hq9 := hown9.blk
  obtain ⟨L, hL⟩ : ∃ L, L = f.plI 0 := ⟨_, rfl⟩
  have hLl : L.length = f.wr := by rw [hL, Fo.plI_length]
  rw [← hLl] at hX10 hW10 hM10 hown10 hops10 h10 hF10 hR10 hB10 hBs10 hc10 hz10 ⊢
  rw [← hL] at hc10
  have hL6 : L.length ≤ 65536 := by rw [hLl]; exact HG.out.few
  obtain ⟨Wb, hWb⟩ : ∃ Wb, Wb = w9.alloc (.cells #[.slice a9 L.length c9] 25) := ⟨_, rfl⟩
  rw [← hWb] at hX10 hW10 hM10 hown10 hops10 h10 hF10 hR10 hB10 hBs10 hc10 hz10 ⊢
  have hseq := bw_seq 4 (by omega) w9.heap.size a9 c9 L (by omega) Wb hBs10 hc10
  have hf1 := (hown10.blk _ rfl).1
  have hf2 := (hops10.blk _ rfl).1
  have hf3 := hs1
  have hf4 : w.heap.size ≤ w7.heap.size := by have := hB6.size; omega
  have hfar : ∀ b ∈ [w1.heap.size, w6.heap.size, w7.heap.size], b ≠ w9.heap.size ∧ (L ≠ [] → a9.map (·.block) ≠ some b) := by
    intro b hb
    have hb' : b = w1.heap.size ∨ b = w6.heap.size ∨ b = w7.heap.size := by simpa using hb
    have hz6 := hT6.size
    have hz5 := hb5.size
    simp only [World.size_alloc] at hz5
    refine ⟨by omega, fun _ e => ?_⟩
    have h9 := (hq9 b e).1
    simp only [World.size_alloc] at h9
    omega
  have HFAR := hide hfar
  have HQ9 := hide (fun b (hb : a9.map (·.block) = some b) => (hq9 b hb).2)
  have HLZ := hide hL
  have HLL := hide hLl
  have hzl : f.zl.length = L.length := by rw [hLl]; unfold Fo.zl; rw [List.length_zip, Fo.pls_length, Fo.unroll_length]; omega
  have HZL := hide hzl
  have hwz : w.heap.size + 1 < w2.heap.size := by omega
  have hw26 : w2.heap.size + 1 < w6.heap.size := by have hz6 := hT6.size; have hz5 := hb5.size; simp only [World.size_alloc] at hz5; omega
  have hw67 : w6.heap.size < w7.heap.size := (hown7.blk _ rfl).2
  have hw79 : w2.heap.size + 1 < w9.heap.size := by have hz6 := hT6.size; have hz5 := hb5.size; simp only [World.size_alloc] at hz5; omega
  generalize hul : f.unroll.length = UL
  clear hfar hL hLl hzl hq9 hul hWb hb9 hb10 hn10 h8 hF8 hops8 hR8 hX8 hW8 hM8 hown8 hB8 v0 v1 v2 v3
  refine wpIn_wide (n := 5).1 ?_
  refine wpIn_rangeFunc_allT (F := Fence.wide) rfl (by omega) (gf := 154) (lb := #[.pointer (some ⟨w9.heap.size, 0, none⟩)]) rfl trivial (enters_of Try.func154 (by kernel_rfl) rfl) hseq (fun b hb => ⟨by omega, fun _ e => by have := HQ9.out b e; omega⟩) (Below.refl _ _) (fun _ => rfl)
    (LkI w.heap.size w1.heap.size w6.heap.size w7.heap.size nr f.flat.length f.zl (lv0 nr f.size outs)) (LkI.foot _ _ _ _ _ _ _ _) [w1.heap.size, w6.heap.size, w7.heap.size] HFAR.out ?start
    (fun x a' W => a' = { defers := [], tmps := #[.agg #[.int .i64 (nr : Int), .slice a f.flat.length c], .slice oa outs.length oc, .pointer (some ⟨w.heap.size, 0, none⟩), undef, .pointer (some ⟨w.heap.size + 1, 0, none⟩), .int .i64 0, .slice a1 UL c1, .int .i64 0, .pointer (some ⟨w2.heap.size, 0, none⟩), .pointer (some ⟨w2.heap.size + 1, 0, none⟩), .pointer (some ⟨w7.heap.size, 0, none⟩), undef, .int .i64 x.2, undef, undef, undef, .tuple #[.slice a1 UL c1, .int .i64 0], .agg #[.int .i64 (nr : Int), .slice a f.flat.length c], .tuple #[.slice a1 UL c1, .int .i64 0], .slice a1 UL c1, .int .i64 0, .int .i64 0, .bool false, undef, undef, .pointer (some ⟨w.heap.size, 0, none⟩), .int .i64 (nr : Int), .slice (some ⟨w1.heap.size, 0, none⟩) nr nr, .func (.func 143) #[] #[.pointer (some ⟨w2.heap.size, 0, none⟩)], .slice oa outs.length oc, .func (.func 145) #[] #[.pointer (some ⟨w.heap.size, 0, none⟩)], .bool false, undef, .func (.func 143) #[] #[.pointer (some ⟨w2.heap.size, 0, none⟩)], .slice oa outs.length oc, .tuple #[], .pointer (some ⟨w.heap.size, 1, none⟩), .slice a f.flat.length c, .int .i64 (f.flat.length : Int), .slice (some ⟨w6.heap.size, 0, none⟩) f.flat.length f.flat.length, .agg #[.slice (some ⟨w6.heap.size, 0, none⟩) f.flat.length f.flat.length, .slice none 0 0, .int .i64 0], .pointer (some ⟨w.heap.size, 1, none⟩), .slice a f.flat.length c, .slice a9 L.length c9, .func (.func 154) #[] #[.pointer (some ⟨w9.heap.size, 0, none⟩)], .int .i64 x.1, .int .i64 x.2, undef, undef, undef, undef, undef, undef, undef, undef, undef, undef, undef, undef, undef, undef, undef, undef, undef, undef, undef, undef, undef, undef, undef, undef, undef, undef, undef, undef, undef, undef, undef, undef, undef, undef, undef, undef, undef, undef, undef, undef, undef, undef, undef] })
    (fun x a' W W' h3 _ hk => h3) ?assign ?body ?done
  case start =>
    exact ⟨L.length, lv0 nr f.size outs, by show 0 + L.length = _; rw [HZL.out]; omega, by show _ = _; rw [← HZL.out, List.drop_length]; rfl, hown10, hops10, hF10, rfl⟩
  case assign =>
    intro l pre x G W K hi hx hlt hG hK
    gi_wp2
    exact hK _ _ rfl (Below.refl _ _)
  case body =>
    rintro l pre x G W a' ⟨k, s, hk, hs, hown, hops, hFi, rfl⟩ rfl hx hlt hG hT
    obtain ⟨tl, htl⟩ := hx
    obtain ⟨k', hk1, rfl⟩ := bwN_split L L.length pre x tl htl
    have hkk : k = k' + 1 := by have := hk.out; have := HZL.out; omega
    obtain ⟨i, op, z1, z2, z3, z4, z5⟩ := HG.out.zl_at (k := k') (by rw [← HLL.out]; omega)
    rw [← HLZ.out] at z2
    have hin := HG.out.inR op z5
    obtain ⟨d0, d1⟩ := hin.dest
    have hrd := hin.reads
    have hsl := lvRun_lengths (f.zl.drop k) (lv0 nr f.size outs)
    rw [← hs.out] at hsl
    have hwl : s.want.length = nr := by rw [hsl.1]; simp [lv0, markL_length]
    have hol2 : s.ops.length = f.flat.length := by rw [hsl.2.1]; simp [lv0]; rfl
    have hcl : s.count ≤ 65536 := by have := hsl.2.2; simp only [lv0, List.length_drop] at this; have := HZL.out; omega
    have hstep := lvRun_drop z1 (lv0 nr f.size outs)
    rw [← hkk, ← hs.out] at hstep
    have hpk : Hid ((pre ++ [((k' : Int), (L[k']?).getD 0)]).length + k' = f.zl.length) := by show _ = _; rw [List.length_append, HZL.out, List.length_singleton]; omega
    rw [z2] at hpk ⊢
    simp only [Option.getD_some] at hpk ⊢
    have HSL := hide hstep
    have HRD := hide hrd
    have HWL := hide hwl
    have HOL := hide hol2
    have hX' : Blk W w.heap.size 24 #[.int .i64 nr, .slice a f.flat.length c] := (hT.block _ hX10.lt (by simp; omega)).trans hX10
    have hW' : Blk W w2.heap.size 138 #[.slice (some ⟨w1.heap.size, 0, none⟩) nr nr] := (hT.block _ hW10.lt (by simp; omega)).trans hW10
    have hM' : Blk W (w2.heap.size + 1) 211 #[.func (.func 143) #[] #[.pointer (some ⟨w2.heap.size, 0, none⟩)]] := (hT.block _ hM10.lt (by simp; omega)).trans hM10
    have hA' : At W a f.flat := h10.turned hT (fun hne g hg e => by obtain ⟨bq, oq, e', hq⟩ := h.lt hne; rw [e'] at e; simp at hg; have e2 : bq = g := (by simpa using e); omega)
    obtain ⟨b1, off1, hba, x0, x1, x2, x3, x4⟩ := getOp_eq hA' (Below.refl _ _) z3
    obtain ⟨p0, p1, p2, p3⟩ := hX'.c2
    obtain ⟨q0, q1⟩ := hW'.c1
    obtain ⟨m0, m1⟩ := hM'.c1
    obtain ⟨f0, f1, f2, f3, f4, f5⟩ := hFi.c3
    obtain ⟨vb, hvb⟩ : ∃ vb, s.want[op.d.toNat]? = some vb := ⟨_, List.getElem?_eq_getElem (by omega)⟩
    have g0 : W.cell? ⟨w1.heap.size, op.d.toNat, none⟩ = some (.bool vb) := by simpa [Flat.n] using hown.cellAt hvb (f := 0) rfl
    have g1 := hown.frozen op.d.toNat
    have hgb : getB s.want op.d = vb := by unfold getB; rw [hvb]; rfl
    have HGB := hide hgb
    have hgw := (hown.blk _ rfl).2
    have hgo := (hops.blk _ rfl).2
    have hgf := hFi.lt
    have hgx := hX'.lt
    have hgm := hM'.lt
    have hgq := hW'.lt
    have HTB := hide hT
    have HGG := hide hG
    have HHK := hide hk
    have HHS := hide hs
    have HHP := hide hpk
    obtain ⟨cs, hcs⟩ : ∃ cs : Nat, cs = s.count := ⟨_, rfl⟩
    rw [← hcs] at f2 hcl
    have HCS := hide hcs
    subst hba
    clear hstep hrd htl hgb hvb hsl hk hs hpk hT hG hk1 hwl hol2 hcs z1 z2 z3 hin hX10 hW10 hM10 hown10 hops10 h10 hF10 hR10 hBs10 hc10 hseq HFAR
    have hBX := @below_new12
    cases vb
    · gi_wp2
      have hs0 : lvRun (f.zl.drop k') (lv0 nr f.size outs) = s := by rw [HSL.out]; unfold lvStep; rw [if_neg (by simp [HGB.out])]
      exact ⟨_, ⟨k', s, HHP.out, hs0.symm, hown.alloc _, hops.alloc _, by rw [← HCS.out]; exact (by rw [HCS.out]; exact hFi.alloc _), rfl⟩, Turned.ofBelow (hBX W _), fun b hb => .inl hb⟩
    · gi_wp2
      obtain ⟨W1, hW1⟩ : ∃ W1, W1 = (W.setCell ⟨w1.heap.size, op.d.toNat, none⟩ (.bool false)).alloc (.cells #[.int .i64 op.kind, .int .i64 op.d, .int .i64 op.a, .int .i64 op.b, .int .u64 (op.v.toNat : Int)] 99) := ⟨_, rfl⟩
      have hz1 : W1.heap.size = W.heap.size + 1 := by rw [hW1]; simp [World.setCell]
      have hz1a : W.heap.size < W1.heap.size := by omega
      have hT1 : Turned [w1.heap.size] W W1 := by
        rw [hW1]
        exact (Turned.ofGrown (F := [w1.heap.size]) (grown_setCell W w1.heap.size op.d.toNat (.bool false)) (fun k hk => .inl (by injection hk with hk; simp [hk]))).trans (Turned.ofBelow (F := []) (below_new12 _ _)) (fun k hk => by cases hk)
      have hownA : Own W1 w.heap.size 4 (some ⟨w1.heap.size, 0, none⟩) nr (s.want.set op.d.toNat false) := by
        rw [hW1]; exact (hown.set1 op.d.toNat false _ rfl).alloc _
      have hopsA : Own W1 w.heap.size 4 (some ⟨w6.heap.size, 0, none⟩) f.flat.length s.ops := by
        rw [hW1]; exact (hops.keep (fun q hq _ => Below.heap_setCell W _ _ q (by simp at hq; simp; omega))).alloc _
      have hFA : Blk W1 w7.heap.size 199 #[.slice (some ⟨w6.heap.size, 0, none⟩) f.flat.length f.flat.length, .slice none 0 0, .int .i64 (cs : Int)] := (hT1.block _ hFi.lt (by simp; omega)).trans (by rw [HCS.out]; exact hFi)
      have hMA : Blk W1 (w2.heap.size + 1) 211 #[.func (.func 143) #[] #[.pointer (some ⟨w2.heap.size, 0, none⟩)]] := (hT1.block _ hM'.lt (by simp; omega)).trans hM'
      have hWA : Blk W1 w2.heap.size 138 #[.slice (some ⟨w1.heap.size, 0, none⟩) nr nr] := (hT1.block _ hW'.lt (by simp; omega)).trans hW'
      have hxA : Blk W1 W.heap.size 99 #[.int .i64 op.kind, .int .i64 op.d, .int .i64 op.a, .int .i64 op.b, .int .u64 (op.v.toNat : Int)] := by
        rw [hW1]
        have := Blk.new (W.setCell ⟨w1.heap.size, op.d.toNat, none⟩ (.bool false)) 99 #[.int .i64 op.kind, .int .i64 op.d, .int .i64 op.a, .int .i64 op.b, .int .u64 (op.v.toNat : Int)]
        simpa [World.setCell] using this
      rw [← hW1]
      have HZ1 := hide hz1
      obtain ⟨n0, n1⟩ := hMA.c1
      obtain ⟨o0, o1, o2, o3, o4, o5, o6, o7, o8, o9⟩ := hxA.c5
      clear hW1 hz1 x0 x1 x2 x3 x4 p0 p1 p2 p3 q0 q1 m0 m1 f0 f1 f2 f3 f4 f5 g0 g1 hBX
      gi_region_with (first
        | (refine ⟨trivial, ?_⟩; gi_at_call 136; go_must (refine ((callsIn_wide.2 (Reads_calls op _)).inRound l).mono ?_; rintro e w4 ⟨ra, rc, rfl, hro, hrb⟩; have hrb' : Below W1.heap.size W1 w4 := ⟨hrb.os, hrb.tape, hrb.output, hrb.size, hrb.block⟩; have hM4 := hMA.belowN hrb'; have hW4 := hWA.belowN hrb'; have hO4 := hownA.belowN hrb'; have hP4 := hopsA.belowN hrb'; have hF4' := hFA.belowN hrb'; have hs4 := hrb'.size; obtain ⟨n0', n1'⟩ := hM4.c1))
        | (refine ⟨trivial, ?_⟩; gi_at_call 143; go_must (refine ((callsIn_wide.2 (Mark_calls w2.heap.size w1.heap.size nr nr w.heap.size (s.want.set op.d.toNat false) ra _ _ (readsL op) _ rfl hro.at_ (by have := reads_len op; omega) hW4 (by omega) (fun hne e => by have := (hro.blk _ e).1; simp at this; omega) hO4 (by rw [List.length_set]; exact HWL.out.symm) HRD.out)).inRound l).mono ?_; rintro e w5' ⟨rfl, hO5, hT5⟩)))
      all_goals
        have hT15 : Turned [w1.heap.size] W1 w5' := (Turned.ofBelow (F := [w1.heap.size]) hrb').trans hT5 (fun k hk => .inl hk)
        have hFC : Blk w5' w7.heap.size 199 #[.slice (some ⟨w6.heap.size, 0, none⟩) f.flat.length f.flat.length, .slice none 0 0, .int .i64 (cs : Int)] := (hT15.block _ hFA.lt (by simp; omega)).trans hFA
        have hPC : Own w5' w.heap.size 4 (some ⟨w6.heap.size, 0, none⟩) f.flat.length s.ops := hopsA.keep (fun q hq hlt => hT15.block q hlt (by simp at hq; simp; omega))
        obtain ⟨vo, hvo⟩ : ∃ vo, s.ops[i]? = some vo := ⟨_, List.getElem?_eq_getElem (by rw [HOL.out]; exact z4)⟩
        have t0 : w5'.cell? ⟨w6.heap.size, i, none⟩ = some (.bool vo) := by simpa [Flat.n] using hPC.cellAt hvo (f := 0) rfl
        have t1 := hPC.frozen i
        obtain ⟨f0, f1, f2, f3, f4, f5⟩ := hFC.c3
        have HTC := hide (hT1.trans hT15 (fun k hk => .inl hk))
        have HS0 := hide (show lvRun (f.zl.drop k') (lv0 nr f.size outs) = ⟨markL (s.want.set op.d.toNat false) (readsL op), s.ops.set i true, s.count + 1⟩ by rw [HSL.out]; unfold lvStep; rw [if_pos HGB.out]; unfold wantS; rw [if_pos HGB.out])
        clear hT15 hvo hT1
        gi_wp2
        refine ⟨_, ⟨k', _, HHP.out, HS0.out.symm, ?_, ?_, ?_, rfl⟩, ?_, fun b hb => .inl hb⟩
        · exact (hO5.keep (fun q hq _ => Below.heap_setCell _ _ _ q (by simp at hq; simp; omega))).keep (fun q hq _ => Below.heap_setCell _ _ _ q (by simp at hq; simp; omega))
        · exact ((hPC.set1 i true _ rfl).keep (fun q hq _ => Below.heap_setCell _ _ _ q (by simp at hq; simp; omega)))
        · have := (hFC.far (p := ⟨w6.heap.size, i, none⟩) (by simp; omega) (.bool true)).set_ 2 (.int .i64 ((cs : Int) + 1))
          show Blk _ _ _ #[_, _, .int .i64 ((s.count + 1 : Nat) : Int)]
          rw [← HCS.out]
          exact this
        · exact ((HTC.out.mono (F' := [w1.heap.size, w6.heap.size, w7.heap.size]) (fun k hk => .inl (by simp at hk; simp [hk]))).trans (Turned.ofGrown (F := [w6.heap.size]) (grown_setCell _ w6.heap.size i _) (fun k hk => .inl (by injection hk with hk; simp [hk]))) (fun k hk => .inl (by simp at hk; simp [hk]))).trans (Turned.ofGrown (F := [w7.heap.size]) (grown_setCell _ w7.heap.size 2 _) (fun k hk => .inl (by injection hk with hk; simp [hk]))) (fun k hk => .inl (by simp at hk; simp [hk]))
  case done =>
    rintro G W ⟨k, s, hk, hs, hown, hops, hFi, rfl⟩ hT hK hlt hG
    have hk0 : k = 0 := by have := hk.out; rw [bwN_length, HZL.out] at this; omega
    rw [hk0] at hs
    have hsl : s = f.look nr outs := by rw [hs.out]; rfl
    have HSL := hide hsl
    have hwl : s.want.length = nr := by rw [hs.out, (lvRun_lengths _ _).1]; simp [lv0, markL_length]
    have HWL := hide hwl
    have hW' : Blk W w2.heap.size 138 #[.slice (some ⟨w1.heap.size, 0, none⟩) nr nr] := (hT.block _ hW10.lt (by simp; omega)).trans hW10
    have hR' : Blk W (w.heap.size + 1) 199 #[.slice none 0 0, .slice none 0 0, .int .i64 0] := (hT.block _ hR10.lt (by simp; omega)).trans hR10
    have hBW : Below w.heap.size w W := Turned.below hB10 hT (by simp; omega) (by omega)
    obtain ⟨q0, q1⟩ := hW'.c1
    clear hk hs hsl hwl hk0 hG hX10 hW10 hM10 hown10 hops10 h10 hF10 hR10 hBs10 hc10 hseq HFAR
    go_wp2
    go_loopw [76] (fun iv wr => ∃ (k n : Nat) (ai : Option Addr) (ci : Nat) (X : List Int), iv = .int .i64 k ∧ k ≤ nr ∧ Hid (n = X.length) ∧ n ≤ k ∧ Hid (X = truesK s.want k) ∧ Own wr W.heap.size 3 ai ci X ∧ Blk wr w7.heap.size 199 #[.slice (some ⟨w6.heap.size, 0, none⟩) f.flat.length f.flat.length, .slice ai n ci, .int .i64 (s.count : Int)] ∧ Turned [w7.heap.size] W wr) (fun iv _ => nr - (intOf iv).toNat)
    case atStart => exact ⟨0, 0, none, 0, [], rfl, by omega, rfl, Nat.le_refl _, rfl, Own.none _ _ _, hFi, Turned.refl _ _⟩
    case round =>
      obtain ⟨k, n, ai, ci, X, rfl, hk, hn, hnk, hX, hoi, hFr, hTr⟩ := hrel
      have hzr := hTr.size
      obtain ⟨f0, f1, f2, f3, f4, f5⟩ := hFr.c3
      have hownr := hown.keep (fun q hq hlt => hTr.block q hlt (by simp at hq; simp; omega))
      by_cases hkn : k < nr
      · obtain ⟨vb, hvb⟩ : ∃ vb, s.want[k]? = some vb := ⟨_, List.getElem?_eq_getElem (by rw [HWL.out]; exact hkn)⟩
        have g0 : wr.cell? ⟨w1.heap.size, k, none⟩ = some (.bool vb) := by simpa [Flat.n] using hownr.cellAt hvb (f := 0) rfl
        have HTK := hide (truesK_succ s.want k)
        have HVB := hide hvb
        have hai : ∀ q, ai.map (·.block) = some q → W.heap.size ≤ q := fun q hq => (hoi.blk q hq).1
        have HAI := hide hai
        have hw7 := hFi.lt
        clear hvb hai
        cases vb
        · go_wp2
          go_roundw
          case rel => exact ⟨k + 1, n, ai, ci, X, by go_num, by omega, hn, by omega, by show _ = _; rw [HTK.out, HVB.out]; exact hX.out, hoi, hFr, hTr⟩
          case measure => simp [intOf]; omega
        · go_wp2_with (at_builtin; go_must (refine wpList_push tyI hoi (k : Int) rfl rfl rfl rfl rfl rfl hn.out hzr (by omega) ?_; intro a4 c4 w4 hown4 hg4 hm4; have hF4 := hFr.grown hg4 (fun e => by have := HAI.out _ e.symm; omega); have hT4 := hTr.trans (Turned.ofGrown (F := (ai.map (·.block)).toList) hg4 (fun k hk => .inl (by rw [hk]; simp))) (fun k hk => .inr (HAI.out k (by simpa using hk))); obtain ⟨k0, k1, k2, k3, k4, k5⟩ := hF4.c3))
          go_roundw
          case rel =>
            refine ⟨k + 1, n + 1, a4, c4, X ++ [(k : Int)], by go_num, by omega, by show _ = _; have := hn.out; simp [this], by omega, by show _ = _; rw [HTK.out, HVB.out, hX.out], hown4.keep (fun q hq _ => Below.heap_setCell _ _ _ q (by have := (hown4.blk q hq).1; simp <;> omega)), hF4.set_ 1 _, hT4.trans (Turned.ofGrown (F := [w7.heap.size]) (grown_setCell _ w7.heap.size 1 _) (fun k hk => .inl (by injection hk with hk; simp [hk]))) (fun k hk => .inl hk)⟩
          case measure => simp [intOf]; omega
      · have hkn' : k = nr := by omega
        have hRr : Blk wr (w.heap.size + 1) 199 #[.slice none 0 0, .slice none 0 0, .int .i64 0] := (hTr.block _ hR'.lt (by simp; omega)).trans hR'
        have hKr := (hTr.block _ (by omega) (by simp; omega)).trans hK
        obtain ⟨k0, k1, k2, k3, k4, k5⟩ := hRr.c3
        have hXX : X = trues (f.look nr outs).want := by rw [hX.out, hkn', ← HSL.out, ← HWL.out]; rfl
        have HXX := hide hXX
        have HKN := hide hkn'
        clear hXX hkn'
        go_wp2
        rw [Exit.noGoto_ret]
        have hR3 := (((hRr.set_ 0 (.slice (some ⟨w6.heap.size, 0, none⟩) f.flat.length f.flat.length)).set_ 1 (.slice ai n ci)).set_ 2 (.int .i64 (s.count : Int)))
        have hK3 : (((wr.setCell ⟨w.heap.size + 1, 0, none⟩ (.slice (some ⟨w6.heap.size, 0, none⟩) f.flat.length f.flat.length)).setCell ⟨w.heap.size + 1, 1, none⟩ (.slice ai n ci)).setCell ⟨w.heap.size + 1, 2, none⟩ (.int .i64 (s.count : Int))).heap[Wb.heap.size]? = some (.deferred (some [])) := by
          rw [Below.heap_setCell _ _ _ _ (by simp; omega), Below.heap_setCell _ _ _ _ (by simp; omega), Below.heap_setCell _ _ _ _ (by simp; omega)]
          exact hKr
        obtain ⟨W3, hW3⟩ : ∃ W3, W3 = (((wr.setCell ⟨w.heap.size + 1, 0, none⟩ (.slice (some ⟨w6.heap.size, 0, none⟩) f.flat.length f.flat.length)).setCell ⟨w.heap.size + 1, 1, none⟩ (.slice ai n ci)).setCell ⟨w.heap.size + 1, 2, none⟩ (.int .i64 (s.count : Int))) := ⟨_, rfl⟩
        have hT3 : Turned [w.heap.size + 1] wr W3 := by
          rw [hW3]
          exact ((Turned.ofGrown (F := [w.heap.size + 1]) (grown_setCell _ (w.heap.size + 1) 0 _) (fun k hk => .inl (by injection hk with hk; simp [hk]))).trans (Turned.ofGrown (F := [w.heap.size + 1]) (grown_setCell _ (w.heap.size + 1) 1 _) (fun k hk => .inl (by injection hk with hk; simp [hk]))) (fun k hk => .inl hk)).trans (Turned.ofGrown (F := [w.heap.size + 1]) (grown_setCell _ (w.heap.size + 1) 2 _) (fun k hk => .inl (by injection hk with hk; simp [hk]))) (fun k hk => .inl hk)
        have hopsr := hops.keep (fun q hq hlt => hTr.block q hlt (by simp at hq; simp; omega))
        have hops3 := hopsr.keep (fun q hq hlt => hT3.block q hlt (by simp at hq; simp; omega))
        have hoi3 := hoi.keep (fun q hq hlt => hT3.block q hlt (by have := (hoi.blk q hq).1; simp; omega))
        have hB3 : Below w.heap.size w W3 := Turned.below (Turned.below hBW hTr (by simp; omega) (by omega)) hT3 (by simp) (by omega)
        rw [← hW3] at hR3 hK3 ⊢
        refine ⟨by simp, .inl ⟨_, _, rfl, run_takeDeferred hK3, ?_⟩⟩
        refine ⟨_, results_row_tmp rfl _ _ (w.heap.size + 1) _ #[.slice (some ⟨w6.heap.size, 0, none⟩) f.flat.length f.flat.length, .slice ai n ci, .int .i64 (s.count : Int)] (0, 0) _ rfl ((World.putObj_heap_other (by omega)).trans hR3) Try.underlying199 rfl (by kernel_rfl), ?_⟩
        have hn2 : n = (trues (f.look nr outs).want).length := by rw [hn.out, HXX.out]
        have hc2 : s.count = (f.look nr outs).count := by rw [HSL.out]
        have ho2 : s.ops = (f.look nr outs).ops := by rw [HSL.out]
        rw [HXX.out] at hoi3
        rw [ho2] at hops3
        rw [hn2, hc2]
        refine ⟨some ⟨w6.heap.size, 0, none⟩, f.flat.length, ai, ci, rfl, ?_, ?_, ?_⟩
        · exact hops3.keep (fun q hq _ => World.putObj_heap_other (by simp at hq; omega))
        · exact (hoi3.keep (fun q hq _ => World.putObj_heap_other (by have := (hoi.blk q hq).1; omega))).mono (by omega)
        · exact Turned.below hB3 (turned_putObj W3 Wb.heap.size _) (fun k hk => by simp at hk; omega) hB3.size
end Go.Proofs.Ythncfoompoheoaa
