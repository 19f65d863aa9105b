/- Chapter 16, the document's answer: Look. -/
import Derived.Test.YthncfoompoheoaaL16g
namespace Go.Proofs.Ythncfoompoheoaa
set_option linter.unusedVariables false
set_option linter.unusedSimpArgs false
open Go.RowKit Go.Shelf
theorem live_arg {regs : Int} {f : Fo} (g : Good regs f) {outs : List Int} (h : outsB regs outs = false) : liveE regs f.flat outs = 2 ∧ liveO regs f.flat outs = [] ∧ liveF regs f.flat outs = [] ∧ liveC regs f.flat outs = 0 := by
  have h2 : liveE regs f.flat outs = 2 := by unfold liveE; rw [if_neg (by rw [g.check]; simp), if_neg (by rw [h]; decide)]
  exact ⟨h2, live_bad (by rw [h2]; decide)⟩
theorem Unroll12RN (regs : Int) (a : Option Addr) (c n : Nat) (l : List OpD) (hn : n = l.length) (w : World) (R : List OpD) (E : Int) (m : Nat) (hm : m = R.length) (hR : unrS regs l = R) (hE : checkS regs l = E) (h : At w a l) (hl : n ≤ 1000000) :
    Calls Try.prog 83 #[.agg #[.int .i64 regs, .slice a n c]] w fun e w' => ∃ a' c', e = .returned (.tuple #[.slice a' m c', .int .i64 E]) ∧ Own w' w.heap.size 99 a' c' R ∧ Below w.heap.size w w' := by
  subst hn hm; exact Unroll12R regs a c l w R E hR hE h hl
set_option maxRecDepth 100000 in
set_option maxHeartbeats 1600000 in
theorem look16_bad (regs : Int) (a : Option Addr) (c : Nat) (l : List OpD) (oa : Option Addr) (oc : Nat) (outs : List Int) (w : World) (h : At w a l) (hl : l.length ≤ 1000000) (hc : checkS regs l ≠ 0) :
    Calls Try.prog 90 #[.agg #[.int .i64 regs, .slice a l.length c], .slice oa outs.length oc] w fun e w' => e = .returned (.tuple #[.agg #[.slice none 0 0, .slice none 0 0, .int .i64 0], .int .i64 (checkS regs l)]) ∧ Below w.heap.size w w' := by
  have hb0 := below_new12 w (.cells #[.int .i64 regs, .slice a l.length c] 24)
  have hb1 := hb0.alloc (by simp) (.cells #[.slice none 0 0, .slice none 0 0, .int .i64 0] 145)
  have hF := Blk.new (w.alloc (.cells #[.int .i64 regs, .slice a l.length c] 24)) 145 #[.slice none 0 0, .slice none 0 0, .int .i64 0]
  simp only [World.size_alloc] at hF
  have h1 := h.belowN hb1
  have hX := (Blk.new w 24 #[.int .i64 regs, .slice a l.length c]).alloc (.cells #[.slice none 0 0, .slice none 0 0, .int .i64 0] 145)
  obtain ⟨r0, r1, r2, r3⟩ := hX.c2
  obtain ⟨f0, f1, f2, f3, f4, f5⟩ := hF.c3
  obtain ⟨E, hE⟩ : ∃ E, checkS regs l = E := ⟨_, rfl⟩
  have HE := hide hE
  have e1 : (E == 0) = false := by rw [← hE]; simpa using hc
  have e2 : (E != 0) = true := by rw [← hE]; simpa using hc
  rw [hE]
  clear hE hc
  go_enter Try.func90, Try.ntmps90
  go_wp2_with (go_at_call 83; go_must ((with_reducible refine (Unroll12R regs a c l _ (unrS regs l) E rfl HE.out h1 (by omega)).mono ?_); rintro e w1 ⟨a1, c1, rfl, hown1, hb2⟩; have hB2 := hb1.trans (hb2.mono hb1.size); have hz2 := hB2.size; have hF1 := hF.belowN hb2; obtain ⟨p0, p1, p2, p3, p4, p5⟩ := hF1.c3))
  have hF2 := (((hF1.set_ 0 (.slice none 0 0)).set_ 1 (.slice none 0 0)).set_ 2 (.int .i64 0))
  refine bodyPost_ret (results_row_tmp rfl _ _ (w.heap.size + 1) _ #[.slice none 0 0, .slice none 0 0, .int .i64 0] (0, 0) _ rfl hF2 Try.underlying145 rfl (by kernel_rfl)) rfl ⟨rfl, ?_⟩
  exact ((hB2.setCell (by simp) _).setCell (by simp) _).setCell (by simp) _
set_option maxRecDepth 100000 in
set_option maxHeartbeats 6400000 in
theorem look16_good (regs : Int) (a : Option Addr) (c : Nat) (f : Fo) (g : Good regs f) (oa : Option Addr) (oc n : Nat) (outs : List Int) (hno : n = outs.length) (w : World) (h : At w a f.flat) (ho : At w oa outs) (hol : n ≤ 1000000)
    (O : List Bool) (Fi : List Int) (C : Nat) (E : Int) (hO : liveO regs f.flat outs = O) (hF : liveF regs f.flat outs = Fi) (hC : liveC regs f.flat outs = C) (hE : liveE regs f.flat outs = E) :
    Calls Try.prog 90 #[.agg #[.int .i64 regs, .slice a f.flat.length c], .slice oa n oc] w (LookPost O Fi C E w) := by
  have hl : f.flat.length ≤ 4096 := g.len
  obtain ⟨nr, rfl⟩ : ∃ nr : Nat, regs = nr := ⟨regs.toNat, by have := g.r1; omega⟩
  have hr64 : nr ≤ 64 := by have := g.r2; omega
  have hb0 := below_new12 w (.cells #[.int .i64 nr, .slice a f.flat.length c] 24)
  have hb1 := hb0.alloc (by simp) (.cells #[.slice none 0 0, .slice none 0 0, .int .i64 0] 145)
  have hFo := Blk.new (w.alloc (.cells #[.int .i64 nr, .slice a f.flat.length c] 24)) 145 #[.slice none 0 0, .slice none 0 0, .int .i64 0]
  simp only [World.size_alloc] at hFo
  have h1 := h.belowN hb1
  have ho1 := ho.belowN hb1
  have hX := (Blk.new w 24 #[.int .i64 nr, .slice a f.flat.length c]).alloc (.cells #[.slice none 0 0, .slice none 0 0, .int .i64 0] 145)
  obtain ⟨r0, r1, r2, r3⟩ := hX.c2
  obtain ⟨f0, f1, f2, f3, f4, f5⟩ := hFo.c3
  have HU := hide (unrS_good g)
  have HE := hide g.check
  have HG := hide g
  have HNO := hide hno
  have HLV := hide (And.intro hO (And.intro hF (And.intro hC hE)))
  clear g hno hO hF hC hE
  go_enter Try.func90, Try.ntmps90
  go_wp2_with (first
    | (go_at_call 83; go_must ((with_reducible refine (Unroll12R nr a c f.flat _ f.unroll 0 HU.out HE.out h1 (by omega)).mono ?_); rintro e w1 ⟨a1, c1, rfl, hown1, hb2⟩; have hB2 := hb1.trans (hb2.mono hb1.size); have hz2 := hB2.size; have hF1 := hFo.belowN hb2; have hX1 := hX.belowN hb2; have ho2 := ho1.belowN hb2; have h2 := h1.belowN hb2; obtain ⟨p0, p1, p2, p3, p4, p5⟩ := hF1.c3; obtain ⟨q0, q1, q2, q3⟩ := hX1.c2; have hs1 := hb2.size; simp only [World.size_alloc] at hs1))
    | (at_make; go_must (refine wpList_mk tyB0 (B := w.heap.size) (n := nr) rfl rfl rfl rfl rfl rfl hz2 (by omega) ?_; intro w2 hown2 hg2; have hb3 := below_of_grown hg2; have hs2 := hg2.size; have hX2 := hX1.belowN hb3; have hF2 := hF1.belowN hb3; have ho3 := ho2.belowN hb3; have h3 := h2.belowN hb3; have hB3 := hB2.trans (hb3.mono hz2); have hlt2 := (hown2.blk _ rfl).2)))
  go_loopw [9] (fun iv wr => ∃ k : Nat, iv = .int .i64 k ∧ k ≤ n ∧ Hid (outsB nr outs = outsB nr (outs.drop k)) ∧ ∃ d, wr = w2.drewN d) (fun iv _ => n - (intOf iv).toNat)
  case atStart => exact ⟨0, rfl, by omega, rfl, 0, rfl⟩
  case round =>
    obtain ⟨k, rfl, hk, hob, d, rfl⟩ := hrel
    obtain ⟨q0, q1, q2, q3⟩ := hX2.c2
    obtain ⟨p0, p1, p2, p3, p4, p5⟩ := hF2.c3
    have hl1 := hX2.lt
    by_cases hkn : k < n
    · obtain ⟨b1, off1, x, rfl, hx, c0⟩ := ho3.getI (Below.refl _ _) (by have := HNO.out; omega : k < outs.length)
      have hd := drop_at hx.out
      have hst : outsB nr outs = ((decide (0 ≤ x) && decide (x < (nr : Int))) && outsB nr (outs.drop (k + 1))) := by rw [hob.out, hd]; rfl
      have HST := hide hst
      have i0 : (0 : Int) ≤ (k : Int) := by omega
      have i1 : (k : Int) < (n : Int) := by omega
      clear hd hst
      rcases Int.lt_or_le x 0 with h0 | h0
      · have d0 : decide (x < 0) = true := by simpa using h0
        have hbad : outsB nr outs = false := by rw [HST.out, decide_eq_false (by omega)]; rfl
        have HBAD := hide hbad
        clear hbad
        go_wp2
        go_quiet (fail)
        go_wp2
        have hF3 := ((((hF2.drewN (d + nq)).set_ 0 (.slice none 0 0)).set_ 1 (.slice none 0 0)).set_ 2 (.int .i64 0))
        obtain ⟨e1, e2, e3, e4⟩ := live_arg HG.out HBAD.out
        obtain ⟨g1, g2, g3, g4⟩ := HLV.out
        refine bodyPost_ret (results_row_tmp rfl _ _ (w.heap.size + 1) _ #[.slice none 0 0, .slice none 0 0, .int .i64 0] (0, 0) _ rfl hF3 Try.underlying145 rfl (by kernel_rfl)) rfl ?_
        rw [← g1, ← g2, ← g3, ← g4, e1, e2, e3, e4]
        exact ⟨none, 0, none, 0, rfl, Own.none _ _ _, Own.none _ _ _, (((below_drewN hB3 _).setCell (by simp) _).setCell (by simp) _).setCell (by simp) _⟩
      · have d0 : decide (x < 0) = false := by simpa using h0
        rcases Int.lt_or_le x nr with h1 | h1
        · have d1 : decide ((nr : Int) ≤ x) = false := by simpa using h1
          have hgo : outsB nr outs = outsB nr (outs.drop (k + 1)) := by rw [HST.out, decide_eq_true h0, decide_eq_true h1]; rfl
          have HGO := hide hgo
          clear hgo
          go_wp2
          go_quiet (fail)
          go_wp2
          go_roundw
          case rel => exact ⟨k + 1, by go_num, by omega, HGO.out, _, rfl⟩
          case measure => simp [intOf]; omega
        · have d1 : decide ((nr : Int) ≤ x) = true := by simpa using h1
          have hbad : outsB nr outs = false := by rw [HST.out, decide_eq_false (show ¬ x < (nr : Int) by omega)]; simp
          have HBAD := hide hbad
          clear hbad
          go_wp2
          go_quiet (fail)
          go_wp2
          have hF3 := ((((hF2.drewN (d + nq)).set_ 0 (.slice none 0 0)).set_ 1 (.slice none 0 0)).set_ 2 (.int .i64 0))
          obtain ⟨e1, e2, e3, e4⟩ := live_arg HG.out HBAD.out
          obtain ⟨g1, g2, g3, g4⟩ := HLV.out
          refine bodyPost_ret (results_row_tmp rfl _ _ (w.heap.size + 1) _ #[.slice none 0 0, .slice none 0 0, .int .i64 0] (0, 0) _ rfl hF3 Try.underlying145 rfl (by kernel_rfl)) rfl ?_
          rw [← g1, ← g2, ← g3, ← g4, e1, e2, e3, e4]
          exact ⟨none, 0, none, 0, rfl, Own.none _ _ _, Own.none _ _ _, (((below_drewN hB3 _).setCell (by simp) _).setCell (by simp) _).setCell (by simp) _⟩
    · obtain rfl : k = n := by omega
      have hB : outsB nr outs = true := by rw [hob.out, HNO.out, List.drop_length]; rfl
      have HOUT := hide (show ∀ i ∈ outs, 0 ≤ i ∧ i.toNat < nr by intro i hi; have h0 := List.all_eq_true.1 (show outs.all (fun k => decide (0 ≤ k) && decide (k < (nr : Int))) = true from hB) i hi; simp at h0; omega)
      have HBB := hide hB
      obtain ⟨W3, hW3⟩ : ∃ W3, W3 = w2.drewN d := ⟨_, rfl⟩
      have hX3 : Blk W3 w.heap.size 24 #[.int .i64 nr, .slice a f.flat.length c] := by rw [hW3]; exact hX2
      have hF3 : Blk W3 (w.heap.size + 1) 145 #[.slice none 0 0, .slice none 0 0, .int .i64 0] := by rw [hW3]; exact hF2
      have hA3 : At W3 a f.flat := by rw [hW3]; exact h3
      have hO3 : At W3 oa outs := by rw [hW3]; exact ho3
      have hN3 : Own W3 w.heap.size 4 (some ⟨w1.heap.size, 0, none⟩) nr (List.replicate nr false) := by rw [hW3]; exact hown2
      have hB3' : Below w.heap.size w W3 := by rw [hW3]; exact below_drewN hB3 _
      have hz3 : w1.heap.size < W3.heap.size := by rw [hW3]; exact hlt2
      rw [← hW3]
      have hoa : outs ≠ [] → oa.map (·.block) ≠ some w1.heap.size := fun hne e => by obtain ⟨bq, oq, e', hq⟩ := ho.lt hne; rw [e'] at e; have e2 : bq = w1.heap.size := (by simpa using e); omega
      have HOA := hide hoa
      clear hob hB hoa hW3 hX2 hF2 h3 ho3 hown2 hB3 q0 q1 q2 q3 p0 p1 p2 p3 p4 p5 hX1 hF1 hg2 hb3 hz2 hB2 ho2 h2 hs2 h1 ho1 hX r0 r1 r2 r3 f0 f1 f2 f3 f4 f5 hFo
      go_wp2
      go_loopw [10] (fun iv wr => ∃ k' : Nat, iv = .int .i64 k' ∧ k' ≤ k ∧ Own wr w.heap.size 4 (some ⟨w1.heap.size, 0, none⟩) nr (markL (List.replicate nr false) (outs.take k')) ∧ Turned [w1.heap.size] W3 wr) (fun iv _ => k - (intOf iv).toNat)
      case atStart => exact ⟨0, rfl, by omega, hN3, Turned.refl _ _⟩
      case round =>
        obtain ⟨j, rfl, hj, hown, hT⟩ := hrel
        by_cases hjk : j < k
        · have hO' : At wr oa outs := hO3.turned hT (fun hne g hg => by simp at hg; subst hg; exact HOA.out hne)
          obtain ⟨b1, off1, x, rfl, hx, c0⟩ := hO'.getI (Below.refl _ _) (by have := HNO.out; omega : j < outs.length)
          obtain ⟨x0, x1⟩ := HOUT.out x (List.mem_of_getElem? hx.out)
          have HS := hide (markL_snoc (List.replicate nr false) outs hx.out)
          have hx2 : x < (nr : Int) := by omega
          have hml : (markL (List.replicate nr false) (outs.take j)).length = nr := by rw [markL_length]; simp
          obtain ⟨vb, hvb⟩ : ∃ vb, (markL (List.replicate nr false) (outs.take j))[x.toNat]? = some vb := ⟨_, List.getElem?_eq_getElem (by omega)⟩
          have q0 : wr.cell? ⟨w1.heap.size, x.toNat, none⟩ = some (.bool vb) := by simpa [Flat.n] using hown.cellAt hvb (f := 0) rfl
          have q1 := hown.frozen x.toNat
          have hown2 := hown.set1 x.toNat true _ rfl
          clear hml hvb
          go_wp2
          go_roundw
          case rel => exact ⟨j + 1, by go_num, by omega, by rw [HS.out]; exact hown2, hT.trans (Turned.ofGrown (F := [w1.heap.size]) (grown_setCell _ w1.heap.size _ _) (fun q hq => .inl (by injection hq with hq; simp [hq]))) (fun b hb => .inl hb)⟩
          case measure => simp [intOf]; omega
        · obtain rfl : j = k := by omega
          rw [HNO.out, List.take_length] at hown
          have hX4 : Blk wr w.heap.size 24 #[.int .i64 nr, .slice a f.flat.length c] := (hT.block _ hX3.lt (by simp; omega)).trans hX3
          have hF4 : Blk wr (w.heap.size + 1) 145 #[.slice none 0 0, .slice none 0 0, .int .i64 0] := (hT.block _ hF3.lt (by simp; omega)).trans hF3
          have hA4 : At wr a f.flat := hA3.turned hT (fun hne g hg e => by obtain ⟨bq, oq, e', hq⟩ := h.lt hne; rw [e'] at e; simp at hg; have e2 : bq = g := (by simpa using e); omega)
          have hB4 : Below w.heap.size w wr := Turned.below hB3' hT (by simp; omega) (by omega)
          obtain ⟨q0, q1, q2, q3⟩ := hX4.c2
          have hz4 := hT.size
          obtain ⟨HNU, HNC⟩ : Hid (unrS 1 (nameF 0 f.flat) = (f.pls 0).map nameP) ∧ Hid (checkS 1 (nameF 0 f.flat) = 0) := named_unr HG.out
          have HLW := hide (show f.wr = ((f.pls 0).map nameP).length by rw [List.length_map, Fo.pls_length])
          have hfw : f.wr ≤ 65536 := HG.out.few
          clear hX3 hF3 hA3 hO3 hN3 hB3' hT
          go_wp2_with (first
            | (go_at_call 130; go_must ((with_reducible refine (named_calls a c f.flat.length f.flat rfl _ hA4 (by omega)).mono ?_); rintro e w5 ⟨a5, c5, rfl, hown5, hb5⟩; have hs5 := hb5.size))
            | (go_at_call 83; go_must ((with_reducible refine (Unroll12RN 1 a5 c5 f.flat.length (nameF 0 f.flat) (nameF_length f.flat 0).symm _ ((f.pls 0).map nameP) 0 f.wr HLW.out HNU.out HNC.out hown5.at_ (by omega)).mono ?_); rintro e w6 ⟨a6, c6, rfl, hown6, hb6⟩; have hb56 := hb5.trans (hb6.mono hb5.size); have hs6 := hb6.size; have hX6 := hX4.belowN hb56; obtain ⟨v0, v1, v2, v3⟩ := hX6.c2))
            | (at_make; go_must (refine wpList_mk tyB0 (B := w.heap.size) (n := f.flat.length) rfl rfl rfl rfl rfl rfl (by omega) (by omega) ?_; intro w7 hown7 hg7; have hb7 := below_of_grown hg7; have hs7 := hg7.size; have hn7 := below_new12 w7 (.cells #[.slice (some ⟨w6.heap.size, 0, none⟩) f.flat.length f.flat.length, .slice none 0 0, .int .i64 0] 145); have hF8 := Blk.new w7 145 #[.slice (some ⟨w6.heap.size, 0, none⟩) f.flat.length f.flat.length, .slice none 0 0, .int .i64 0])))
          obtain ⟨W8, hW8⟩ : ∃ W8, W8 = w7.alloc (.cells #[.slice (some ⟨w6.heap.size, 0, none⟩) f.flat.length f.flat.length, .slice none 0 0, .int .i64 0] 145) := ⟨_, rfl⟩
          have hb67 : Below w6.heap.size w6 W8 := by rw [hW8]; exact hb7.trans (hn7.mono hs7)
          have hb8 : Below wr.heap.size wr W8 := hb56.trans (hb67.mono hb56.size)
          have hX8 := hX4.belowN hb8
          have hR8 := hF4.belowN hb8
          have hA8 := hA4.belowN hb8
          have hO8 := hown.belowN hb8
          have hU8 := hown6.at_.belowN hb67
          have hP8 : Own W8 w.heap.size 4 (some ⟨w6.heap.size, 0, none⟩) f.flat.length (List.replicate f.flat.length false) := by rw [hW8]; exact hown7.belowN hn7
          have hG8 : Blk W8 w7.heap.size 145 #[.slice (some ⟨w6.heap.size, 0, none⟩) f.flat.length f.flat.length, .slice none 0 0, .int .i64 0] := by rw [hW8]; exact hF8
          have hB8 := hB4.trans (hb8.mono hB4.size)
          have hz8 : w7.heap.size < W8.heap.size := hG8.lt
          have hw67 : w6.heap.size < w7.heap.size := (hown7.blk _ rfl).2
          have hw16 : w1.heap.size < w6.heap.size := by omega
          have HU6 := hide hown6.blk
          rw [← hW8]
          have hzl : f.zl.length = f.wr := by unfold Fo.zl; rw [List.length_zip, Fo.pls_length, Fo.unroll_length]; omega
          have HZL := hide hzl
          obtain ⟨m, hm⟩ : ∃ m, m = f.wr := ⟨_, rfl⟩
          have HM := hide hm
          rw [← hm] at hfw hzl ⊢
          clear hW8 hX4 hF4 hA4 hown hown6 hown7 hF8 hB4 hb8 hb67 hn7 hb7 hg7 hb56 hb6 hb5 hX6 v0 v1 v2 v3 q0 q1 q2 q3 hown5 hown1 hb2 p0 p1 p2 p3 p4 p5 hzl hm
          go_loopw [14] (fun iv wr => ∃ (k : Nat) (s : Lv), iv = .int .i64 ((k : Int) - 1) ∧ k ≤ m ∧ Hid (s = lvRun (f.zl.drop k) (lv0 nr f.size outs)) ∧ Own wr w.heap.size 4 (some ⟨w1.heap.size, 0, none⟩) nr s.want ∧ Own wr w.heap.size 4 (some ⟨w6.heap.size, 0, none⟩) f.flat.length s.ops ∧
            Blk wr w7.heap.size 145 #[.slice (some ⟨w6.heap.size, 0, none⟩) f.flat.length f.flat.length, .slice none 0 0, .int .i64 (s.count : Int)] ∧ Turned [w1.heap.size, w6.heap.size, w7.heap.size] W8 wr) (fun iv _ => (intOf iv + 1).toNat)
          case atStart => exact ⟨m, lv0 nr f.size outs, rfl, by omega, by show _ = _; rw [HM.out, ← HZL.out, List.drop_length]; rfl, hO8, hP8, hG8, Turned.refl _ _⟩
          case round =>
            obtain ⟨k, s, rfl, hk, hs, hown, hops, hFi, hT⟩ := hrel
            have hX' : Blk wr w.heap.size 24 #[.int .i64 nr, .slice a f.flat.length c] := (hT.block _ hX8.lt (by simp; omega)).trans hX8
            have hR' : Blk wr (w.heap.size + 1) 145 #[.slice none 0 0, .slice none 0 0, .int .i64 0] := (hT.block _ hR8.lt (by simp; omega)).trans hR8
            have hBW : Below w.heap.size w wr := Turned.below hB8 hT (by simp; omega) (by omega)
            have hsl := lvRun_lengths (f.zl.drop k) (lv0 nr f.size outs)
            rw [← hs.out] at hsl
            have hwl : s.want.length = nr := by rw [hsl.1]; simp [lv0, markL_length]
            have hol2 : s.ops.length = f.flat.length := by rw [hsl.2.1]; simp [lv0]; rfl
            have hcl : s.count ≤ 65536 := by have := hsl.2.2; simp only [lv0, List.length_drop] at this; have := HZL.out; have := HM.out; omega
            have HWL := hide hwl
            have HOL := hide hol2
            obtain ⟨p0, p1, p2, p3⟩ := hX'.c2
            obtain ⟨f0, f1, f2, f3, f4, f5⟩ := hFi.c3
            cases k with
            | zero =>
              have hsl : s = f.look nr outs := by rw [hs.out]; rfl
              have HSL := hide hsl
              clear hs hwl hol2 hsl
              go_wp2
              obtain ⟨wo, rfl⟩ : ∃ wo : World, wo = wr := ⟨_, rfl⟩
              go_loopw [19] (fun iv w5 => ∃ (k n : Nat) (ai : Option Addr) (ci : Nat) (X : List Int), iv = .int .i64 k ∧ k ≤ nr ∧ Hid (n = X.length) ∧ n ≤ k ∧ Hid (X = truesK s.want k) ∧ Own w5 wo.heap.size 3 ai ci X ∧ Blk w5 w7.heap.size 145 #[.slice (some ⟨w6.heap.size, 0, none⟩) f.flat.length f.flat.length, .slice ai n ci, .int .i64 (s.count : Int)] ∧ Turned [w7.heap.size] wo w5) (fun iv _ => nr - (intOf iv).toNat)
              case atStart => exact ⟨0, 0, none, 0, [], rfl, by omega, rfl, Nat.le_refl _, rfl, Own.none _ _ _, hFi, Turned.refl _ _⟩
              case round =>
                obtain ⟨k, n, ai, ci, X, rfl, hk, hn, hnk, hX, hoi, hFr, hTr⟩ := hrel
                have hzr := hTr.size
                obtain ⟨f0, f1, f2, f3, f4, f5⟩ := hFr.c3
                have hownr := hown.keep (fun q hq hlt => hTr.block q hlt (by simp at hq; simp; omega))
                have hXr : Blk wr w.heap.size 24 #[.int .i64 nr, .slice a f.flat.length c] := (hTr.block _ hX'.lt (by simp; omega)).trans hX'
                obtain ⟨p0, p1, p2, p3⟩ := hXr.c2
                by_cases hkn : k < nr
                · obtain ⟨vb, hvb⟩ : ∃ vb, s.want[k]? = some vb := ⟨_, List.getElem?_eq_getElem (by rw [HWL.out]; exact hkn)⟩
                  have g0 : wr.cell? ⟨w1.heap.size, k, none⟩ = some (.bool vb) := by simpa [Flat.n] using hownr.cellAt hvb (f := 0) rfl
                  have HTK := hide (truesK_succ s.want k)
                  have HVB := hide hvb
                  have HAI := hide (fun q (hq : ai.map (·.block) = some q) => (hoi.blk q hq).1)
                  have hw7 := hFi.lt
                  clear hvb
                  cases vb
                  · go_wp2
                    go_roundw
                    case rel => exact ⟨k + 1, n, ai, ci, X, by go_num, by omega, hn, by omega, by show _ = _; rw [HTK.out, HVB.out]; exact hX.out, hoi, hFr, hTr⟩
                    case measure => simp [intOf]; omega
                  · go_wp2_with (at_builtin; go_must (refine wpList_push tyI hoi (k : Int) rfl rfl rfl rfl rfl rfl hn.out hzr (by omega) ?_; intro a4 c4 w4 hown4 hg4 hm4; have hF4 := hFr.grown hg4 (fun e => by have := HAI.out _ e.symm; omega); have hT4 := hTr.trans (Turned.ofGrown (F := (ai.map (·.block)).toList) hg4 (fun k hk => .inl (by rw [hk]; simp))) (fun k hk => .inr (HAI.out k (by simpa using hk))); obtain ⟨k0, k1, k2, k3, k4, k5⟩ := hF4.c3))
                    go_roundw
                    case rel =>
                      refine ⟨k + 1, by omega, by omega, n + 1, a4, c4, X ++ [(k : Int)], by show _ = _; have := hn.out; simp [this], by omega, by show _ = _; rw [HTK.out, HVB.out, hX.out], hown4.keep (fun q hq _ => Below.heap_setCell _ _ _ q (by have := (hown4.blk q hq).1; simp <;> omega)), hF4.set_ 1 _, hT4.trans (Turned.ofGrown (F := [w7.heap.size]) (grown_setCell _ w7.heap.size 1 _) (fun k hk => .inl (by injection hk with hk; simp [hk]))) (fun k hk => .inl hk)⟩
                    case measure => simp [intOf]; omega
                · have hkn' : k = nr := by omega
                  have hRr : Blk wr (w.heap.size + 1) 145 #[.slice none 0 0, .slice none 0 0, .int .i64 0] := (hTr.block _ hR'.lt (by simp; omega)).trans hR'
                  obtain ⟨k0, k1, k2, k3, k4, k5⟩ := hRr.c3
                  have hXX : X = trues (f.look nr outs).want := by rw [hX.out, hkn', ← HSL.out, ← HWL.out]; rfl
                  have HXX := hide hXX
                  have HKN := hide hkn'
                  clear hXX hkn'
                  go_wp2
                  have hR3 := (((hRr.set_ 0 (.slice (some ⟨w6.heap.size, 0, none⟩) f.flat.length f.flat.length)).set_ 1 (.slice ai n ci)).set_ 2 (.int .i64 (s.count : Int)))
                  obtain ⟨W9, hW9⟩ : ∃ W9, W9 = (((wr.setCell ⟨w.heap.size + 1, 0, none⟩ (.slice (some ⟨w6.heap.size, 0, none⟩) f.flat.length f.flat.length)).setCell ⟨w.heap.size + 1, 1, none⟩ (.slice ai n ci)).setCell ⟨w.heap.size + 1, 2, none⟩ (.int .i64 (s.count : Int))) := ⟨_, rfl⟩
                  have hT3 : Turned [w.heap.size + 1] wr W9 := by
                    rw [hW9]
                    exact ((Turned.ofGrown (F := [w.heap.size + 1]) (grown_setCell _ (w.heap.size + 1) 0 _) (fun k hk => .inl (by injection hk with hk; simp [hk]))).trans (Turned.ofGrown (F := [w.heap.size + 1]) (grown_setCell _ (w.heap.size + 1) 1 _) (fun k hk => .inl (by injection hk with hk; simp [hk]))) (fun k hk => .inl hk)).trans (Turned.ofGrown (F := [w.heap.size + 1]) (grown_setCell _ (w.heap.size + 1) 2 _) (fun k hk => .inl (by injection hk with hk; simp [hk]))) (fun k hk => .inl hk)
                  have hlw := hBW.size
                  have hl1w := hR'.lt
                  have hopsr := hops.keep (fun q hq hlt => hTr.block q hlt (by simp at hq; simp; omega))
                  have hops3 := hopsr.keep (fun q hq hlt => hT3.block q hlt (by simp at hq; simp; omega))
                  have hoi3 := hoi.keep (fun q hq hlt => hT3.block q hlt (by have := (hoi.blk q hq).1; simp; omega))
                  have hB3 : Below w.heap.size w W9 := Turned.below (Turned.below hBW hTr (by simp; omega) (by omega)) hT3 (by simp) (by omega)
                  rw [← hW9] at hR3 ⊢
                  have hn2 : n = (trues (f.look nr outs).want).length := by rw [hn.out, HXX.out]
                  obtain ⟨e0, e1, e2, e3⟩ := live_good HG.out HBB.out
                  obtain ⟨g1, g2, g3, g4⟩ := HLV.out
                  refine bodyPost_ret (results_row_tmp rfl _ _ (w.heap.size + 1) _ #[.slice (some ⟨w6.heap.size, 0, none⟩) f.flat.length f.flat.length, .slice ai n ci, .int .i64 (s.count : Int)] (0, 0) _ rfl hR3 Try.underlying145 rfl (by kernel_rfl)) rfl ?_
                  rw [HXX.out] at hoi3
                  rw [HSL.out] at hops3
                  rw [← g1, ← g2, ← g3, ← g4, e0, e1, e2, e3, hn2, HSL.out]
                  unfold LookPost
                  rw [look_ops_length]
                  exact ⟨some ⟨w6.heap.size, 0, none⟩, f.flat.length, ai, ci, rfl, hops3, hoi3.mono (by omega), hB3⟩
            | succ k' =>
              obtain ⟨i, op, z1, z2, z3, z4, z5⟩ := HG.out.zl_at (k := k') (by rw [← HM.out]; omega)
              have hin := HG.out.inR op z5
              obtain ⟨d0, d1⟩ := hin.dest
              have hrd := hin.reads
              have hstep := lvRun_drop z1 (lv0 nr f.size outs)
              rw [← hs.out] at hstep
              have HSL := hide hstep
              have HRD := hide hrd
              have hA' : At wr a f.flat := hA8.turned hT (fun hne g hg e => by obtain ⟨bq, oq, e', hq⟩ := h.lt hne; rw [e'] at e; simp at hg; have e2 : bq = g := (by simpa using e); omega)
              have hU' : At wr a6 ((f.pls 0).map nameP) := hU8.turned hT (fun hne g hg e => by have := HU6.out g e; simp at hg; omega)
              have hi64 : UInt64.toNat (UInt64.ofNat i) = i := by rw [UInt64.toNat_ofNat', Nat.mod_eq_of_lt (by omega)]
              have z2' : ((f.pls 0).map nameP)[k']? = some (nameP i) := by
                have hpk : (f.pls 0)[k']? = some i := by
                  have := z2; unfold Fo.plI at this; rw [List.getElem?_map] at this
                  rcases hq : (f.pls 0)[k']? with _ | q
                  · rw [hq] at this; simp at this
                  · rw [hq] at this; have e8 : (q : Int) = (i : Int) := by simpa using this
                    have e9 : q = i := by omega
                    rw [e9]
                rw [List.getElem?_map, hpk]; rfl
              obtain ⟨b6, off6, hb6, n0, n1, n2, n3, n4⟩ := getOp_eq hU' (Below.refl _ _) z2'
              obtain ⟨b1, off1, hba, x0, x1, x2, x3, x4⟩ := getOp_eq hA' (Below.refl _ _) z3
              have n4' : wr.cell? ⟨b6, off6 + k' * 5 + 4, none⟩ = some (.int .u64 (i : Int)) := by rw [n4]; simp only [nameP, hi64]
              subst hba hb6
              obtain ⟨vb, hvb⟩ : ∃ vb, s.want[op.d.toNat]? = some vb := ⟨_, List.getElem?_eq_getElem (by omega)⟩
              have g0 : wr.cell? ⟨w1.heap.size, op.d.toNat, none⟩ = some (.bool vb) := by simpa [Flat.n] using hown.cellAt hvb (f := 0) rfl
              have g1 := hown.frozen op.d.toNat
              have hgb : getB s.want op.d = vb := by unfold getB; rw [hvb]; rfl
              have HGB := hide hgb
              have hgw := (hown.blk _ rfl).2
              have hgo := (hops.blk _ rfl).2
              have hgf := hFi.lt
              have hgx := hX'.lt
              clear hstep hrd hgb hvb hsl hs hwl hol2 z1 z2 z3 hin n0 n1 n2 n3 n4 z2' hi64
              cases vb
              · go_wp2
                have hs0 : lvRun (f.zl.drop k') (lv0 nr f.size outs) = s := by rw [HSL.out]; unfold lvStep; rw [if_neg (by simp [HGB.out])]
                go_roundw
                case rel => exact ⟨k', s, rfl, by omega, hs0.symm, hown.alloc _, hops.alloc _, hFi.alloc _, hT.trans (Turned.ofBelow (F := []) (below_new12 _ _)) (fun k hk => by cases hk)⟩
                case measure => simp [intOf] <;> omega
              · have hT1 : Turned [w1.heap.size] wr ((wr.setCell ⟨w1.heap.size, op.d.toNat, none⟩ (.bool false)).alloc (.cells #[.int .i64 op.kind, .int .i64 op.d, .int .i64 op.a, .int .i64 op.b, .int .u64 (op.v.toNat : Int)] 99)) := (Turned.ofGrown (F := [w1.heap.size]) (grown_setCell wr w1.heap.size op.d.toNat (.bool false)) (fun k hk => .inl (by injection hk with hk; simp [hk]))).trans (Turned.ofBelow (F := []) (below_new12 _ _)) (fun k hk => by cases hk)
                have hownA := (hown.set1 op.d.toNat false _ rfl).alloc (.cells #[.int .i64 op.kind, .int .i64 op.d, .int .i64 op.a, .int .i64 op.b, .int .u64 (op.v.toNat : Int)] 99)
                have hopsA := (hops.keep (fun q hq _ => Below.heap_setCell wr ⟨w1.heap.size, op.d.toNat, none⟩ (.bool false) q (by simp at hq; simp; omega))).alloc (.cells #[.int .i64 op.kind, .int .i64 op.d, .int .i64 op.a, .int .i64 op.b, .int .u64 (op.v.toNat : Int)] 99)
                have hFA : Blk ((wr.setCell ⟨w1.heap.size, op.d.toNat, none⟩ (.bool false)).alloc (.cells #[.int .i64 op.kind, .int .i64 op.d, .int .i64 op.a, .int .i64 op.b, .int .u64 (op.v.toNat : Int)] 99)) w7.heap.size 145 #[.slice (some ⟨w6.heap.size, 0, none⟩) f.flat.length f.flat.length, .slice none 0 0, .int .i64 (s.count : Int)] := (hT1.block _ hFi.lt (by simp; omega)).trans hFi
                have HCT := hide hT1
                go_wp2_with (go_at_call 131; go_must ((with_reducible refine (Reads7_calls op _).mono ?_); rintro e w4 ⟨ra, rc, rfl, hro, hrb⟩; have hO4 := hownA.belowN hrb; have hP4 := hopsA.belowN hrb; have hF4 := hFA.belowN hrb; have hT4 := HCT.out.trans (Turned.ofBelow (F := []) hrb) (fun k hk => by cases hk)))
                have hra : ∀ q, ra.map (·.block) = some q → wr.heap.size ≤ q := fun q hq => by have := (hro.blk q hq).1; simp [World.setCell] at this; omega
                have hrl := reads_len op
                have hro' := hro.at_
                have hs4 := hT4.size
                obtain ⟨rn, hrn⟩ : ∃ rn, rn = (readsL op).length := ⟨_, rfl⟩
                have HRN := hide hrn
                have HRA := hide hra
                rw [← hrn] at hrl ⊢
                clear hrn hra hro hownA hopsA hFA hT1
                obtain ⟨wo, rfl⟩ : ∃ wo : World, wo = wr := ⟨_, rfl⟩
                go_loopw [18] (fun iv w5 => ∃ k2 : Nat, iv = .int .i64 k2 ∧ k2 ≤ rn ∧ Own w5 w.heap.size 4 (some ⟨w1.heap.size, 0, none⟩) nr (markL (s.want.set op.d.toNat false) ((readsL op).take k2)) ∧ Turned [w1.heap.size] w4 w5) (fun iv _ => rn - (intOf iv).toNat)
                case atStart => exact ⟨0, rfl, by omega, hO4, Turned.refl _ _⟩
                case round =>
                  obtain ⟨k2, rfl, hk2, hown5, hT5⟩ := hrel
                  by_cases hjk2 : k2 < rn
                  · have hO' : At wr ra (readsL op) := hro'.turned hT5 (fun hne g hg e => by simp at hg; subst hg; have := HRA.out _ e; omega)
                    obtain ⟨b8, off8, x, rfl, hx, c0⟩ := hO'.getI (Below.refl _ _) (by have := HRN.out; omega : k2 < (readsL op).length)
                    obtain ⟨x0, x1⟩ := HRD.out x (List.mem_of_getElem? hx.out)
                    have HS := hide (markL_snoc (s.want.set op.d.toNat false) (readsL op) hx.out)
                    have hx2 : x < (nr : Int) := by omega
                    have hml : (markL (s.want.set op.d.toNat false) ((readsL op).take k2)).length = nr := by rw [markL_length, List.length_set, HWL.out]
                    obtain ⟨vb, hvb⟩ : ∃ vb, (markL (s.want.set op.d.toNat false) ((readsL op).take k2))[x.toNat]? = some vb := ⟨_, List.getElem?_eq_getElem (by omega)⟩
                    have q0 : wr.cell? ⟨w1.heap.size, x.toNat, none⟩ = some (.bool vb) := by simpa [Flat.n] using hown5.cellAt hvb (f := 0) rfl
                    have q1 := hown5.frozen x.toNat
                    have hown2 := hown5.set1 x.toNat true _ rfl
                    clear hml hvb
                    go_wp2
                    go_roundw
                    case rel => exact ⟨k2 + 1, by go_num, by omega, by rw [HS.out]; exact hown2, hT5.trans (Turned.ofGrown (F := [w1.heap.size]) (grown_setCell _ w1.heap.size _ _) (fun q hq => .inl (by injection hq with hq; simp [hq]))) (fun b hb => .inl hb)⟩
                    case measure => simp [intOf]; omega
                  · obtain rfl : k2 = rn := by omega
                    rw [HRN.out, List.take_length] at hown5
                    have hFC : Blk wr w7.heap.size 145 #[.slice (some ⟨w6.heap.size, 0, none⟩) f.flat.length f.flat.length, .slice none 0 0, .int .i64 (s.count : Int)] := (hT5.block _ hF4.lt (by simp; omega)).trans hF4
                    have hPC : Own wr w.heap.size 4 (some ⟨w6.heap.size, 0, none⟩) f.flat.length s.ops := hP4.keep (fun q hq hlt => hT5.block q hlt (by simp at hq; simp; omega))
                    obtain ⟨vo, hvo⟩ : ∃ vo, s.ops[i]? = some vo := ⟨_, List.getElem?_eq_getElem (by rw [HOL.out]; exact z4)⟩
                    have t0 : wr.cell? ⟨w6.heap.size, i, none⟩ = some (.bool vo) := by simpa [Flat.n] using hPC.cellAt hvo (f := 0) rfl
                    have t1 := hPC.frozen i
                    obtain ⟨y0, y1, y2, y3, y4, y5⟩ := hFC.c3
                    have HTC := hide (hT4.trans hT5 (fun k hk => .inl hk))
                    have HS0 := hide (show lvRun (f.zl.drop k') (lv0 nr f.size outs) = ⟨markL (s.want.set op.d.toNat false) (readsL op), s.ops.set i true, s.count + 1⟩ by rw [HSL.out]; unfold lvStep; rw [if_pos HGB.out]; unfold wantS; rw [if_pos HGB.out])
                    have hg5 := hFC.lt
                    have hg6 := (hPC.blk _ rfl).2
                    clear hvo
                    go_wp2
                    go_roundw
                    case rel =>
                      refine ⟨k', _, rfl, by omega, HS0.out.symm, ?_, ?_, ?_, ?_⟩
                      · exact (hown5.keep (fun q hq _ => Below.heap_setCell _ _ _ q (by simp at hq; simp; omega))).keep (fun q hq _ => Below.heap_setCell _ _ _ q (by simp at hq; simp; omega))
                      · exact ((hPC.set1 i true _ rfl).keep (fun q hq _ => Below.heap_setCell _ _ _ q (by simp at hq; simp; omega)))
                      · have := (hFC.far (p := ⟨w6.heap.size, i, none⟩) (by simp; omega) (.bool true)).set_ 2 (.int .i64 ((s.count : Int) + 1))
                        show Blk _ _ _ #[_, _, .int .i64 ((s.count + 1 : Nat) : Int)]
                        exact this
                      · exact hT.trans (((HTC.out.mono (F' := [w1.heap.size, w6.heap.size, w7.heap.size]) (fun k hk => .inl (by simp at hk; simp [hk]))).trans (Turned.ofGrown (F := [w6.heap.size]) (grown_setCell _ w6.heap.size i _) (fun k hk => .inl (by injection hk with hk; simp [hk]))) (fun k hk => .inl (by simp at hk; simp [hk]))).trans (Turned.ofGrown (F := [w7.heap.size]) (grown_setCell _ w7.heap.size 2 _) (fun k hk => .inl (by injection hk with hk; simp [hk]))) (fun k hk => .inl (by simp at hk; simp [hk]))) (fun k hk => .inl hk)
                    case measure => simp [intOf] <;> omega
end Go.Proofs.Ythncfoompoheoaa
