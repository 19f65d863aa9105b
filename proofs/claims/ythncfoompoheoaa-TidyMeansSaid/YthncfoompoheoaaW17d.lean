/- Chapter 17: tidy.Tidy; the document's Sift. -/
import Derived.Test.YthncfoompoheoaaW17c
import Derived.Test.YthncfoompoheoaaL16i
namespace Go.Proofs.Ythncfoompoheoaa
set_option linter.unusedVariables false
set_option linter.unusedSimpArgs false
open Go.RowKit
noncomputable def tidyL (regs : Int) (l : List OpD) (outs : List Int) : List OpD := if liveE regs l outs = 0 then openL regs (siftL regs l outs) else []
theorem liveE_check {regs : Int} {l : List OpD} {outs : List Int} (h : liveE regs l outs = 0) : checkS regs l = 0 := by
  by_cases hc : checkS regs l = 0
  · exact hc
  · unfold liveE at h; rw [if_pos hc] at h; exact h
/-- What is sifted, may be. -/
theorem siftL_good {regs : Int} {l : List OpD} {outs : List Int} (h : liveE regs l outs = 0) : ∃ f : Fo, l = f.flat ∧ Good regs f ∧ Good regs ((f.lab 0).sift (flagF (liveO regs l outs))).fo ∧ siftL regs l outs = ((f.lab 0).sift (flagF (liveO regs l outs))).fo.flat := by
  obtain ⟨f, hf, g⟩ := good_of_check (liveE_check h)
  refine ⟨f, hf, g, g.sift _, ?_⟩
  unfold siftL
  rw [if_pos h, hf, Fo.sift_flat f g.ok]
theorem siftL_check {regs : Int} {l : List OpD} {outs : List Int} (h : liveE regs l outs = 0) : checkS regs (siftL regs l outs) = 0 := by
  obtain ⟨f, _, _, g, e⟩ := siftL_good h
  rw [e]
  exact g.check
theorem siftL_length {regs : Int} {l : List OpD} {outs : List Int} : (siftL regs l outs).length ≤ 4096 := by
  by_cases h : liveE regs l outs = 0
  · obtain ⟨f, _, _, g, e⟩ := siftL_good h
    rw [e]
    exact g.len
  · unfold siftL; rw [if_neg h]; simp
set_option maxRecDepth 100000 in
set_option maxHeartbeats 3200000 in
theorem Tidy_calls (regs : Int) (a : Option Addr) (c ln : Nat) (l : List OpD) (hln : ln = l.length) (oa : Option Addr) (oc n : Nat) (outs : List Int) (hno : n = outs.length) (w : World) (h : At w a l) (hl : ln ≤ 1000000) (ho : At w oa outs) (hol : n ≤ 1000000) (E : Int) (L : List OpD) (hE : liveE regs l outs = E) (hL : tidyL regs l outs = L) :
    Calls Try.prog 48 #[.agg #[.int .i64 regs, .slice a ln c], .slice oa n oc] w (ProgOut (regsIf E regs) E L w) := by
  have hb0 := (below_new12 w (.cells #[.int .i64 regs, .slice a ln c] 24)).alloc (by simp) (.cells #[.int .i64 0, .slice none 0 0] 24)
  have hR := Blk.new (w.alloc (.cells #[.int .i64 regs, .slice a ln c] 24)) 24 #[.int .i64 0, .slice none 0 0]
  simp only [World.size_alloc] at hR
  have h1 := h.belowN hb0
  have ho1 := ho.belowN hb0
  obtain ⟨Q, hQ⟩ : ∃ Q, siftL regs l outs = Q := ⟨_, rfl⟩
  have hQl := siftL_length (regs := regs) (l := l) (outs := outs)
  rw [hQ] at hQl
  have HS := hide (Sift_calls regs a c ln l hln oa oc n outs hno _ h1 hl ho1 hol E Q hE hQ)
  unfold tidyL at hL
  rw [hE, hQ] at hL
  by_cases hE0 : E = 0
  · subst hE0
    rw [if_pos rfl] at hL
    have hck := siftL_check hE
    rw [hQ] at hck
    have e1 : regsIf 0 regs = regs := by unfold regsIf; rw [if_pos rfl]
    rw [e1] at HS ⊢
    have HO := hide (fun (a2 : Option Addr) (c2 n2 : Nat) (hn2 : n2 = Q.length) (W : World) (k1 : At W a2 Q) (k2 : n2 ≤ 1000000) => Open_calls regs a2 c2 n2 Q hn2 W k1 k2 0 L hck hL)
    rw [e1] at HO
    clear e1 hE hQ hL hck hln hno
    go_enter Try.func48, Try.ntmps48
    go_wp2_with (first
      | (go_at_call 44; go_must ((with_reducible refine (HS.out).mono ?_); rintro e w1 ⟨a1, c1, m1, rfl, hm1, hown1, hb1⟩; have HM1 := hide hm1; have hm1b : m1 ≤ 4096 := (by omega); have hn1 := below_new12 w1 (.cells #[.int .i64 regs, .slice a1 m1 c1] 24); have hC2 := hb1.trans (hn1.mono hb1.size); have hR2 := hR.belowN hC2; have hat2 := (hown1.belowN hn1).at_; clear hm1))
      | (go_at_call 46; go_must ((with_reducible refine (HO.out _ _ _ HM1.out _ hat2 (by omega)).mono ?_); rintro e w4 ⟨a4, c4, m4, rfl, hm4, hown4, hb4⟩; have HM4 := hide hm4; have hC4 := hC2.trans (hb4.mono hC2.size); have hR4 := hR2.belowN hb4; have hz2 := hC2.size; obtain ⟨r0, r1, r2, r3⟩ := hR4.c2; clear hm4)))
    try simp only [Exit.then, Exit.inBlock]
    try rw [Exit.noGoto_ret]
    have hF6 := (hR4.set_ 0 (.int .i64 regs)).set_ 1 (.slice a4 m4 c4)
    have hB4 := hb0.trans (hC4.mono hb0.size)
    have hzo := hR2.lt
    refine bodyPost_ret (results_row_tmp rfl _ _ (w.heap.size + 1) _ #[.int .i64 regs, .slice a4 m4 c4] (0, 0) _ rfl hF6 Try.underlying24 rfl (by kernel_rfl)) rfl ?_
    exact ⟨a4, c4, m4, rfl, HM4.out, ((hown4.farLt (p := ⟨w.heap.size + 1, 0, none⟩) hzo _).farLt (p := ⟨w.heap.size + 1, 1, none⟩) hzo _).mono (Nat.le_of_lt (Nat.lt_of_le_of_lt (Nat.le_succ _) hzo)), ((hB4.setCell (p := ⟨w.heap.size + 1, 0, none⟩) (Nat.le_succ _) _).setCell (p := ⟨w.heap.size + 1, 1, none⟩) (Nat.le_succ _) _)⟩
  · rw [if_neg hE0] at hL
    subst hL
    have e1 : regsIf E regs = 0 := by unfold regsIf; rw [if_neg hE0]
    have e2 : (E == 0) = false := by simpa using hE0
    have e3 : (E != 0) = true := by simpa using hE0
    rw [e1] at HS ⊢
    clear e1 hE0 hE hQ hln hno
    go_enter Try.func48, Try.ntmps48
    go_wp2_with (go_at_call 44; go_must ((with_reducible refine (HS.out).mono ?_); rintro e w1 ⟨a1, c1, m1, rfl, hm1, hown1, hb1⟩; have hn1 := below_new12 w1 (.cells #[.int .i64 0, .slice a1 m1 c1] 24); have hC2 := hb1.trans (hn1.mono hb1.size); have hR2 := hR.belowN hC2; obtain ⟨r0, r1, r2, r3⟩ := hR2.c2; have hB1 := hb0.trans (hC2.mono hb0.size); clear hm1))
    try simp only [Exit.then, Exit.inBlock]
    try rw [Exit.noGoto_ret]
    have hF6 := (hR2.set_ 0 (.int .i64 0)).set_ 1 (.slice none 0 0)
    refine bodyPost_ret (results_row_tmp rfl _ _ (w.heap.size + 1) _ #[.int .i64 0, .slice none 0 0] (0, 0) _ rfl hF6 Try.underlying24 rfl (by kernel_rfl)) rfl ?_
    exact ⟨none, 0, 0, rfl, rfl, Own.none _ _ _, ((hB1.setCell (p := ⟨w.heap.size + 1, 0, none⟩) (Nat.le_succ _) _).setCell (p := ⟨w.heap.size + 1, 1, none⟩) (Nat.le_succ _) _)⟩
set_option maxRecDepth 100000 in
set_option maxHeartbeats 6400000 in
theorem RSift_calls (regs : Int) (a : Option Addr) (c ln : Nat) (l : List OpD) (hln : ln = l.length) (oa : Option Addr) (oc n : Nat) (outs : List Int) (hno : n = outs.length) (w : World) (h : At w a l) (hl : ln ≤ 1000000) (ho : At w oa outs) (hol : n ≤ 1000000) (E : Int) (L : List OpD) (hE : liveE regs l outs = E) (hL : siftL regs l outs = L) :
    Calls Try.prog 45 #[.agg #[.int .i64 regs, .slice a ln c], .slice oa n oc] w (ProgOut (regsIf E regs) E L w) := by
  have hb0 := (below_new12 w (.cells #[.int .i64 regs, .slice a ln c] 24)).alloc (by simp) (.cells #[.int .i64 0, .slice none 0 0] 24)
  have hX := (Blk.new w 24 #[.int .i64 regs, .slice a ln c]).alloc (.cells #[.int .i64 0, .slice none 0 0] 24)
  have hR := Blk.new (w.alloc (.cells #[.int .i64 regs, .slice a ln c] 24)) 24 #[.int .i64 0, .slice none 0 0]
  simp only [World.size_alloc] at hR
  have h1 := h.belowN hb0
  have ho1 := ho.belowN hb0
  obtain ⟨O, hO⟩ : ∃ O, liveO regs l outs = O := ⟨_, rfl⟩
  obtain ⟨on, hon⟩ : ∃ on, on = O.length := ⟨_, rfl⟩
  obtain ⟨Fi, hFi⟩ : ∃ Fi, liveF regs l outs = Fi := ⟨_, rfl⟩
  obtain ⟨fn, hfn⟩ : ∃ fn, fn = Fi.length := ⟨_, rfl⟩
  obtain ⟨C, hC⟩ : ∃ C, liveC regs l outs = C := ⟨_, rfl⟩
  have HN := hide (Look16_calls regs a c ln l hln oa oc n outs hno _ h1 hl ho1 hol O Fi C E hO hFi hC hE)
  unfold LookPost at HN
  rw [← hon, ← hfn] at HN
  unfold siftL at hL
  rw [hE, hO] at hL
  have HLN := hide hln
  by_cases hE0 : E = 0
  · rw [if_pos hE0] at hL
    subst hE0
    have hOL : on = ln := by rw [hon, ← hO, liveO_length hE, hln]
    have hlb : ln ≤ 4096 := by
      obtain ⟨f, hf, g⟩ := good_of_check (liveE_check hE)
      rw [hln, hf]; exact g.len
    have HON := hide hon
    have HST := hide ((pickF_stays (flagF O) (fun k => (flagF O k || ((l[k]?.map (fun x => decide (x.kind = 7) || decide (x.kind = 0))).getD false))) l 0 (fun k x hx => by rw [Nat.zero_add, hx]; rfl)).trans hL)
    obtain ⟨st, hst⟩ : ∃ st : Nat → Bool, st = (fun k => (flagF O k || ((l[k]?.map (fun x => decide (x.kind = 7) || decide (x.kind = 0))).getD false))) := ⟨_, rfl⟩
    rw [← hst] at HST
    have HSK := hide (fun (k : Nat) (x : OpD) (o : Bool) (hx : l[k]? = some x) (ho : O[k]? = some o) => show st k = (o || (decide (x.kind = 7) || decide (x.kind = 0))) by rw [hst]; simp only [flagF, hx, ho]; rfl)
    subst hOL
    have e1 : regsIf 0 regs = regs := by unfold regsIf; rw [if_pos rfl]
    rw [e1]
    clear e1 hon hE hO hL hln hno hst hfn hFi hC
    go_enter Try.func45, Try.ntmps45
    go_wp2_with (go_at_call 90; go_must ((with_reducible refine (HN.out).mono ?_); rintro e w1 ⟨a1, c1, a2, c2, rfl, hown1, hown2, hb1⟩; have hn1 := (below_new12 w1 (.cells #[.slice a1 on c1, .slice a2 fn c2, .int .i64 (C : Int)] 145)); have hC1 := hb1.trans (hn1.mono hb1.size); obtain ⟨p0, p1, p2, p3⟩ := (hX.belowN hC1).c2))
    have hzW := hn1.size
    have hX1 := hX.belowN hC1
    have hR1 := hR.belowN hC1
    have hF1 := (Blk.new w1 145 #[.slice a1 on c1, .slice a2 fn c2, .int .i64 (C : Int)])
    have hO1 := hown1.at_.belowN hn1
    have hl1 := h1.belowN hC1
    obtain ⟨W2, hW2⟩ : ∃ W2, W2 = w1.alloc (.cells #[.slice a1 on c1, .slice a2 fn c2, .int .i64 (C : Int)] 145) := ⟨_, rfl⟩
    have hg2 : W2.heap.size = w1.heap.size + 1 := by rw [hW2]; simp
    rw [← hW2] at hX1 hR1 hF1 hO1 hl1 hC1 p0 p1 p2 p3 hn1 ⊢
    obtain ⟨gq, hgq⟩ : ∃ gq, gq = w1.heap.size + 1 := ⟨_, rfl⟩
    rw [← hgq] at hg2 ⊢
    have hn2 := below_new12 W2 (.cells #[.int .i64 regs, .slice none 0 0] 24)
    have hQ0 := Blk.new W2 24 #[.int .i64 regs, .slice none 0 0]
    have hxl := hX1.lt
    have hrl := hR1.lt
    have hfl := hF1.lt
    obtain ⟨gf, hgf⟩ : ∃ gf, gf = w1.heap.size := ⟨_, rfl⟩
    rw [← hgf] at hF1 hfl ⊢
    rw [hg2] at hQ0 hn2 hxl hrl hfl
    have hB2 := hb0.trans (hC1.mono hb0.size)
    clear hW2 hgq hgf hn1
    have HG2 := hide hg2
    clear hg2
    go_loopw [9] (fun kv wr => ∃ (k m : Nat) (ao : Option Addr) (co : Nat), kv = .int .i64 k ∧ k ≤ on ∧ m ≤ k ∧ Hid (m = (pickF st 0 (l.take k)).length) ∧ Blk wr gq 24 #[.int .i64 regs, .slice ao m co] ∧ Own wr gq 99 ao co (pickF st 0 (l.take k)) ∧ Below gq W2 wr) (fun kv _ => on - (intOf kv).toNat)
    case atStart => exact ⟨0, 0, none, 0, rfl, by omega, by omega, rfl, hQ0, Own.none _ _ _, hn2⟩
    case round =>
      obtain ⟨k, m, ao, co, rfl, hk, hmk, hm, hQ, hown, hb⟩ := hrel
      have hbe : Below W2.heap.size W2 wr := by rw [HG2.out]; exact hb
      have hXr := hX1.belowN hbe
      have hFr := hF1.belowN hbe
      obtain ⟨q0, q1, q2, q3⟩ := hXr.c2
      obtain ⟨f0, f1, f2, f3, f4, f5⟩ := hFr.c3
      obtain ⟨t0, t1, t2, t3⟩ := hQ.c2
      have hzq : gq ≤ wr.heap.size := Nat.le_of_lt hQ.lt
      by_cases hlt : k < on
      · obtain ⟨b1, off1, x, rfl, hx, x0, x1, x2, x3, x4⟩ := hl1.getOp hbe (by rw [← HLN.out]; exact hlt)
        obtain ⟨b2, off2, o, rfl, ho', y0⟩ := hO1.getBo hbe (k := k) (by rw [← HON.out]; exact hlt)
        have hb1q : b1 < gq := by
          obtain ⟨_, _, _, e9, _, g9, _⟩ := hl1.getOp (Below.refl _ _) (k := k) (by rw [← HLN.out]; exact hlt)
          cases e9
          have := World.block_lt_of_cell? _ _ g9
          rw [HG2.out] at this
          exact this
        have HSN := hide (pickF_snoc st l k x hx.out)
        have hsk0 := HSK.out k x o hx.out ho'.out
        clear hx ho'
        cases o with
        | true =>
          have hsk : st k = true := by rw [hsk0]; rfl
          clear hsk0
          have hP1 : pickF st 0 (l.take (k + 1)) = pickF st 0 (l.take k) ++ [x] := by rw [HSN.out, if_pos hsk]
          have HP1 := hide hP1
          have hw0 := below_new12 wr (.cells #[.int .i64 x.kind, .int .i64 x.d, .int .i64 x.a, .int .i64 x.b, .int .u64 (x.v.toNat : Int)] 99)
          have hrowA : Own (wr.alloc (.cells #[.int .i64 x.kind, .int .i64 x.d, .int .i64 x.a, .int .i64 x.b, .int .u64 (x.v.toNat : Int)] 99)).drew gq 99 ao co (pickF st 0 (l.take k)) := hown.alloc _
          have hsrc : At (wr.alloc (.cells #[.int .i64 x.kind, .int .i64 x.d, .int .i64 x.a, .int .i64 x.b, .int .u64 (x.v.toNat : Int)] 99)).drew (some ⟨wr.heap.size, 0, none⟩) [x] := At.ofBlk (Blk.new wr 99 #[.int .i64 x.kind, .int .i64 x.d, .int .i64 x.a, .int .i64 x.b, .int .u64 (x.v.toNat : Int)]) [x] rfl
          have hgqw := hQ.lt
          have hb1w := World.block_lt_of_cell? _ _ x0
          have hpw : w.heap.size < wr.heap.size := by omega
          have hao := hown.blk
          have hne1 : ao.map (·.block) ≠ some gq := hown.blk_ne hQ (by decide)
          have hzA : gq ≤ (wr.alloc (.cells #[.int .i64 x.kind, .int .i64 x.d, .int .i64 x.a, .int .i64 x.b, .int .u64 (x.v.toNat : Int)] 99)).drew.heap.size := by show gq ≤ (wr.alloc _).heap.size; rw [World.size_alloc]; omega
          obtain ⟨S', hS'⟩ : ∃ S' : World → Prop, S' = fun w' => w'.cell? ⟨gq, 1, none⟩ = some (.slice ao m co) ∧ w'.cell? ⟨w.heap.size, 1, none⟩ = some (.slice (some ⟨b1, off1, none⟩) on c) ∧ w'.cell? ⟨b1, off1 + k * 5, none⟩ = some (.int .i64 x.kind) ∧ w'.cell? ⟨b1, off1 + k * 5 + 1, none⟩ = some (.int .i64 x.d) ∧ w'.cell? ⟨b1, off1 + k * 5 + 2, none⟩ = some (.int .i64 x.a) ∧ w'.cell? ⟨b1, off1 + k * 5 + 3, none⟩ = some (.int .i64 x.b) ∧ w'.cell? ⟨b1, off1 + k * 5 + 4, none⟩ = some (.int .u64 (x.v.toNat : Int)) := ⟨_, rfl⟩
          have HSE : Hid (∀ w', S' w' → w'.cell? ⟨gq, 1, none⟩ = some (.slice ao m co) ∧ w'.cell? ⟨w.heap.size, 1, none⟩ = some (.slice (some ⟨b1, off1, none⟩) on c) ∧ w'.cell? ⟨b1, off1 + k * 5, none⟩ = some (.int .i64 x.kind) ∧ w'.cell? ⟨b1, off1 + k * 5 + 1, none⟩ = some (.int .i64 x.d) ∧ w'.cell? ⟨b1, off1 + k * 5 + 2, none⟩ = some (.int .i64 x.a) ∧ w'.cell? ⟨b1, off1 + k * 5 + 3, none⟩ = some (.int .i64 x.b) ∧ w'.cell? ⟨b1, off1 + k * 5 + 4, none⟩ = some (.int .u64 (x.v.toNat : Int))) := hide fun w' h => by rw [hS'] at h; exact h
          have HSB : Hid (∀ w', w'.heap[gq]? = wr.heap[gq]? → w'.heap[w.heap.size]? = wr.heap[w.heap.size]? → w'.heap[b1]? = wr.heap[b1]? → S' w') := hide fun w' h1 h2 h3 => by
            rw [hS']
            exact ⟨(World.cell?_of_block h1).trans t1, (World.cell?_of_block h2).trans q1, (World.cell?_of_block h3).trans x0, (World.cell?_of_block h3).trans x1, (World.cell?_of_block h3).trans x2, (World.cell?_of_block h3).trans x3, (World.cell?_of_block h3).trans x4⟩
          have HSI : Hid (S' wr.drew) := HSB.out _ rfl rfl rfl
          have HSI2 : Hid (S' (wr.alloc (.cells #[.int .i64 x.kind, .int .i64 x.d, .int .i64 x.a, .int .i64 x.b, .int .u64 (x.v.toNat : Int)] 99)).drew) := HSB.out _ (Below.heap_alloc wr _ gq hgqw) (Below.heap_alloc wr _ _ hpw) (Below.heap_alloc wr _ b1 hb1w)
          clear hS' hsk hP1
          go_wp2
          refine wp_region_calls 7 9 S' (by kernel_rfl) (by kernel_rfl) HSI.out ?_
          simp only [List.take_succ_cons, List.take_zero, List.drop_succ_cons, List.drop_zero, Nat.reduceSub]
          iterate 7
            apply headK_step (by rfl)
            · intro w' hw'
              obtain ⟨s0, s1, s2, s3, s4, s5, s6⟩ := HSE.out w' hw'
              go_simp
              rfl
            intro a' ha'
            simp only [Act.put, List.setIfInBounds_toArray, List.set_cons_succ, List.set_cons_zero] at ha'
            subst ha'
          refine headK_nil ?_
          rw [midK]
          intro K0 hK0
          have HK0 := hide hK0
          clear hK0
          go_simp
          refine HK0.out _ _ HSI2.out ?_
          clear HK0
          rw [midK]
          intro K1 hK1
          have HK1 := hide hK1
          clear hK1
          refine step_pushAll tyO hrowA (l2 := [x]) hsrc rfl rfl rfl rfl hm.out rfl hzA (by omega) (by omega) ?_
          intro a8 c8 w8 hown8 hg8' hm8'
          have hg8 : wr.grownBy w8 (ao.map (·.block)) := ⟨hg8'.os, hg8'.tape, hg8'.output, by have := hg8'.size; simp at this; omega, fun j hj hne => (hg8'.block j (by simp; omega) hne).trans (Below.heap_alloc wr _ j hj)⟩
          have hQ8 : Blk w8 gq 24 #[.int .i64 regs, .slice ao m co] := (hg8.block gq hgqw (fun e => hne1 e.symm)).trans hQ
          have hb8 : Below gq W2 w8 := Below.grown hb hg8 hzq (fun j hj => (hao j hj).1)
          refine HK1.out _ _ (HSB.out w8 (hg8.block gq hgqw (fun e => hne1 e.symm)) (hg8.block _ hpw (fun e => by have := (hao _ e.symm).1; omega)) (hg8.block b1 hb1w (fun e => by have := (hao _ e.symm).1; omega))) ?_
          clear HK1
          rw [midK]
          obtain ⟨t0', t1', t2', t3'⟩ := hQ8.c2
          have hz8 := hown8.blk
          clear HSI HSI2 HSB HSE hg8'
          go_wp2
          refine NoPanic.normal ?_
          go_wp2
          go_roundw
          case rel => exact ⟨k + 1, m + 1, a8, c8, by go_num, by omega, by omega, by show _ = _; rw [HP1.out]; simp [hm.out], by simpa using hQ8.set_ 1 (.slice a8 (m + 1) c8), by rw [HP1.out]; exact hown8.far (hown8.blk_ne hQ8 (by decide)) _, hb8.setCell (p := ⟨gq, 1, none⟩) (Nat.le_refl _) _⟩
          case measure => simp [intOf]; omega
        | false =>
          rw [Bool.false_or] at hsk0
          by_cases h7 : x.kind = 7
          · have k7 : (x.kind == 7) = true := by simpa using h7
            have hsk : st k = true := by rw [hsk0, h7]; rfl
            clear hsk0 h7
            have hP1 : pickF st 0 (l.take (k + 1)) = pickF st 0 (l.take k) ++ [x] := by rw [HSN.out, if_pos hsk]
            have HP1 := hide hP1
            have hw0 := below_new12 wr (.cells #[.int .i64 x.kind, .int .i64 x.d, .int .i64 x.a, .int .i64 x.b, .int .u64 (x.v.toNat : Int)] 99)
            have hrowA : Own (wr.alloc (.cells #[.int .i64 x.kind, .int .i64 x.d, .int .i64 x.a, .int .i64 x.b, .int .u64 (x.v.toNat : Int)] 99)).drew gq 99 ao co (pickF st 0 (l.take k)) := hown.alloc _
            have hsrc : At (wr.alloc (.cells #[.int .i64 x.kind, .int .i64 x.d, .int .i64 x.a, .int .i64 x.b, .int .u64 (x.v.toNat : Int)] 99)).drew (some ⟨wr.heap.size, 0, none⟩) [x] := At.ofBlk (Blk.new wr 99 #[.int .i64 x.kind, .int .i64 x.d, .int .i64 x.a, .int .i64 x.b, .int .u64 (x.v.toNat : Int)]) [x] rfl
            have hgqw := hQ.lt
            have hb1w := World.block_lt_of_cell? _ _ x0
            have hpw : w.heap.size < wr.heap.size := by omega
            have hao := hown.blk
            have hne1 : ao.map (·.block) ≠ some gq := hown.blk_ne hQ (by decide)
            have hzA : gq ≤ (wr.alloc (.cells #[.int .i64 x.kind, .int .i64 x.d, .int .i64 x.a, .int .i64 x.b, .int .u64 (x.v.toNat : Int)] 99)).drew.heap.size := by show gq ≤ (wr.alloc _).heap.size; rw [World.size_alloc]; omega
            obtain ⟨S', hS'⟩ : ∃ S' : World → Prop, S' = fun w' => w'.cell? ⟨gq, 1, none⟩ = some (.slice ao m co) ∧ w'.cell? ⟨w.heap.size, 1, none⟩ = some (.slice (some ⟨b1, off1, none⟩) on c) ∧ w'.cell? ⟨b1, off1 + k * 5, none⟩ = some (.int .i64 x.kind) ∧ w'.cell? ⟨b1, off1 + k * 5 + 1, none⟩ = some (.int .i64 x.d) ∧ w'.cell? ⟨b1, off1 + k * 5 + 2, none⟩ = some (.int .i64 x.a) ∧ w'.cell? ⟨b1, off1 + k * 5 + 3, none⟩ = some (.int .i64 x.b) ∧ w'.cell? ⟨b1, off1 + k * 5 + 4, none⟩ = some (.int .u64 (x.v.toNat : Int)) := ⟨_, rfl⟩
            have HSE : Hid (∀ w', S' w' → w'.cell? ⟨gq, 1, none⟩ = some (.slice ao m co) ∧ w'.cell? ⟨w.heap.size, 1, none⟩ = some (.slice (some ⟨b1, off1, none⟩) on c) ∧ w'.cell? ⟨b1, off1 + k * 5, none⟩ = some (.int .i64 x.kind) ∧ w'.cell? ⟨b1, off1 + k * 5 + 1, none⟩ = some (.int .i64 x.d) ∧ w'.cell? ⟨b1, off1 + k * 5 + 2, none⟩ = some (.int .i64 x.a) ∧ w'.cell? ⟨b1, off1 + k * 5 + 3, none⟩ = some (.int .i64 x.b) ∧ w'.cell? ⟨b1, off1 + k * 5 + 4, none⟩ = some (.int .u64 (x.v.toNat : Int))) := hide fun w' h => by rw [hS'] at h; exact h
            have HSB : Hid (∀ w', w'.heap[gq]? = wr.heap[gq]? → w'.heap[w.heap.size]? = wr.heap[w.heap.size]? → w'.heap[b1]? = wr.heap[b1]? → S' w') := hide fun w' h1 h2 h3 => by
              rw [hS']
              exact ⟨(World.cell?_of_block h1).trans t1, (World.cell?_of_block h2).trans q1, (World.cell?_of_block h3).trans x0, (World.cell?_of_block h3).trans x1, (World.cell?_of_block h3).trans x2, (World.cell?_of_block h3).trans x3, (World.cell?_of_block h3).trans x4⟩
            have HSI : Hid (S' wr.drew) := HSB.out _ rfl rfl rfl
            have HSI2 : Hid (S' (wr.alloc (.cells #[.int .i64 x.kind, .int .i64 x.d, .int .i64 x.a, .int .i64 x.b, .int .u64 (x.v.toNat : Int)] 99)).drew) := HSB.out _ (Below.heap_alloc wr _ gq hgqw) (Below.heap_alloc wr _ _ hpw) (Below.heap_alloc wr _ b1 hb1w)
            clear hS' hsk hP1
            go_wp2
            refine wp_region_calls 7 9 S' (by kernel_rfl) (by kernel_rfl) HSI.out ?_
            simp only [List.take_succ_cons, List.take_zero, List.drop_succ_cons, List.drop_zero, Nat.reduceSub]
            iterate 7
              apply headK_step (by rfl)
              · intro w' hw'
                obtain ⟨s0, s1, s2, s3, s4, s5, s6⟩ := HSE.out w' hw'
                go_simp
                rfl
              intro a' ha'
              simp only [Act.put, List.setIfInBounds_toArray, List.set_cons_succ, List.set_cons_zero] at ha'
              subst ha'
            refine headK_nil ?_
            rw [midK]
            intro K0 hK0
            have HK0 := hide hK0
            clear hK0
            go_simp
            refine HK0.out _ _ HSI2.out ?_
            clear HK0
            rw [midK]
            intro K1 hK1
            have HK1 := hide hK1
            clear hK1
            refine step_pushAll tyO hrowA (l2 := [x]) hsrc rfl rfl rfl rfl hm.out rfl hzA (by omega) (by omega) ?_
            intro a8 c8 w8 hown8 hg8' hm8'
            have hg8 : wr.grownBy w8 (ao.map (·.block)) := ⟨hg8'.os, hg8'.tape, hg8'.output, by have := hg8'.size; simp at this; omega, fun j hj hne => (hg8'.block j (by simp; omega) hne).trans (Below.heap_alloc wr _ j hj)⟩
            have hQ8 : Blk w8 gq 24 #[.int .i64 regs, .slice ao m co] := (hg8.block gq hgqw (fun e => hne1 e.symm)).trans hQ
            have hb8 : Below gq W2 w8 := Below.grown hb hg8 hzq (fun j hj => (hao j hj).1)
            refine HK1.out _ _ (HSB.out w8 (hg8.block gq hgqw (fun e => hne1 e.symm)) (hg8.block _ hpw (fun e => by have := (hao _ e.symm).1; omega)) (hg8.block b1 hb1w (fun e => by have := (hao _ e.symm).1; omega))) ?_
            clear HK1
            rw [midK]
            obtain ⟨t0', t1', t2', t3'⟩ := hQ8.c2
            have hz8 := hown8.blk
            clear HSI HSI2 HSB HSE hg8'
            go_wp2
            refine NoPanic.normal ?_
            go_wp2
            go_roundw
            case rel => exact ⟨k + 1, m + 1, a8, c8, by go_num, by omega, by omega, by show _ = _; rw [HP1.out]; simp [hm.out], by simpa using hQ8.set_ 1 (.slice a8 (m + 1) c8), by rw [HP1.out]; exact hown8.far (hown8.blk_ne hQ8 (by decide)) _, hb8.setCell (p := ⟨gq, 1, none⟩) (Nat.le_refl _) _⟩
            case measure => simp [intOf]; omega
          have k7 : (x.kind == 7) = false := by simpa using h7
          by_cases h0 : x.kind = 0
          · have k0 : (x.kind == 0) = true := by simpa using h0
            have hsk : st k = true := by rw [hsk0, h0]; rfl
            clear hsk0 h0 h7
            have hP1 : pickF st 0 (l.take (k + 1)) = pickF st 0 (l.take k) ++ [x] := by rw [HSN.out, if_pos hsk]
            have HP1 := hide hP1
            have hw0 := below_new12 wr (.cells #[.int .i64 x.kind, .int .i64 x.d, .int .i64 x.a, .int .i64 x.b, .int .u64 (x.v.toNat : Int)] 99)
            have hrowA : Own (wr.alloc (.cells #[.int .i64 x.kind, .int .i64 x.d, .int .i64 x.a, .int .i64 x.b, .int .u64 (x.v.toNat : Int)] 99)).drew gq 99 ao co (pickF st 0 (l.take k)) := hown.alloc _
            have hsrc : At (wr.alloc (.cells #[.int .i64 x.kind, .int .i64 x.d, .int .i64 x.a, .int .i64 x.b, .int .u64 (x.v.toNat : Int)] 99)).drew (some ⟨wr.heap.size, 0, none⟩) [x] := At.ofBlk (Blk.new wr 99 #[.int .i64 x.kind, .int .i64 x.d, .int .i64 x.a, .int .i64 x.b, .int .u64 (x.v.toNat : Int)]) [x] rfl
            have hgqw := hQ.lt
            have hb1w := World.block_lt_of_cell? _ _ x0
            have hpw : w.heap.size < wr.heap.size := by omega
            have hao := hown.blk
            have hne1 : ao.map (·.block) ≠ some gq := hown.blk_ne hQ (by decide)
            have hzA : gq ≤ (wr.alloc (.cells #[.int .i64 x.kind, .int .i64 x.d, .int .i64 x.a, .int .i64 x.b, .int .u64 (x.v.toNat : Int)] 99)).drew.heap.size := by show gq ≤ (wr.alloc _).heap.size; rw [World.size_alloc]; omega
            obtain ⟨S', hS'⟩ : ∃ S' : World → Prop, S' = fun w' => w'.cell? ⟨gq, 1, none⟩ = some (.slice ao m co) ∧ w'.cell? ⟨w.heap.size, 1, none⟩ = some (.slice (some ⟨b1, off1, none⟩) on c) ∧ w'.cell? ⟨b1, off1 + k * 5, none⟩ = some (.int .i64 x.kind) ∧ w'.cell? ⟨b1, off1 + k * 5 + 1, none⟩ = some (.int .i64 x.d) ∧ w'.cell? ⟨b1, off1 + k * 5 + 2, none⟩ = some (.int .i64 x.a) ∧ w'.cell? ⟨b1, off1 + k * 5 + 3, none⟩ = some (.int .i64 x.b) ∧ w'.cell? ⟨b1, off1 + k * 5 + 4, none⟩ = some (.int .u64 (x.v.toNat : Int)) := ⟨_, rfl⟩
            have HSE : Hid (∀ w', S' w' → w'.cell? ⟨gq, 1, none⟩ = some (.slice ao m co) ∧ w'.cell? ⟨w.heap.size, 1, none⟩ = some (.slice (some ⟨b1, off1, none⟩) on c) ∧ w'.cell? ⟨b1, off1 + k * 5, none⟩ = some (.int .i64 x.kind) ∧ w'.cell? ⟨b1, off1 + k * 5 + 1, none⟩ = some (.int .i64 x.d) ∧ w'.cell? ⟨b1, off1 + k * 5 + 2, none⟩ = some (.int .i64 x.a) ∧ w'.cell? ⟨b1, off1 + k * 5 + 3, none⟩ = some (.int .i64 x.b) ∧ w'.cell? ⟨b1, off1 + k * 5 + 4, none⟩ = some (.int .u64 (x.v.toNat : Int))) := hide fun w' h => by rw [hS'] at h; exact h
            have HSB : Hid (∀ w', w'.heap[gq]? = wr.heap[gq]? → w'.heap[w.heap.size]? = wr.heap[w.heap.size]? → w'.heap[b1]? = wr.heap[b1]? → S' w') := hide fun w' h1 h2 h3 => by
              rw [hS']
              exact ⟨(World.cell?_of_block h1).trans t1, (World.cell?_of_block h2).trans q1, (World.cell?_of_block h3).trans x0, (World.cell?_of_block h3).trans x1, (World.cell?_of_block h3).trans x2, (World.cell?_of_block h3).trans x3, (World.cell?_of_block h3).trans x4⟩
            have HSI : Hid (S' wr.drew) := HSB.out _ rfl rfl rfl
            have HSI2 : Hid (S' (wr.alloc (.cells #[.int .i64 x.kind, .int .i64 x.d, .int .i64 x.a, .int .i64 x.b, .int .u64 (x.v.toNat : Int)] 99)).drew) := HSB.out _ (Below.heap_alloc wr _ gq hgqw) (Below.heap_alloc wr _ _ hpw) (Below.heap_alloc wr _ b1 hb1w)
            clear hS' hsk hP1
            go_wp2
            refine wp_region_calls 7 9 S' (by kernel_rfl) (by kernel_rfl) HSI.out ?_
            simp only [List.take_succ_cons, List.take_zero, List.drop_succ_cons, List.drop_zero, Nat.reduceSub]
            iterate 7
              apply headK_step (by rfl)
              · intro w' hw'
                obtain ⟨s0, s1, s2, s3, s4, s5, s6⟩ := HSE.out w' hw'
                go_simp
                rfl
              intro a' ha'
              simp only [Act.put, List.setIfInBounds_toArray, List.set_cons_succ, List.set_cons_zero] at ha'
              subst ha'
            refine headK_nil ?_
            rw [midK]
            intro K0 hK0
            have HK0 := hide hK0
            clear hK0
            go_simp
            refine HK0.out _ _ HSI2.out ?_
            clear HK0
            rw [midK]
            intro K1 hK1
            have HK1 := hide hK1
            clear hK1
            refine step_pushAll tyO hrowA (l2 := [x]) hsrc rfl rfl rfl rfl hm.out rfl hzA (by omega) (by omega) ?_
            intro a8 c8 w8 hown8 hg8' hm8'
            have hg8 : wr.grownBy w8 (ao.map (·.block)) := ⟨hg8'.os, hg8'.tape, hg8'.output, by have := hg8'.size; simp at this; omega, fun j hj hne => (hg8'.block j (by simp; omega) hne).trans (Below.heap_alloc wr _ j hj)⟩
            have hQ8 : Blk w8 gq 24 #[.int .i64 regs, .slice ao m co] := (hg8.block gq hgqw (fun e => hne1 e.symm)).trans hQ
            have hb8 : Below gq W2 w8 := Below.grown hb hg8 hzq (fun j hj => (hao j hj).1)
            refine HK1.out _ _ (HSB.out w8 (hg8.block gq hgqw (fun e => hne1 e.symm)) (hg8.block _ hpw (fun e => by have := (hao _ e.symm).1; omega)) (hg8.block b1 hb1w (fun e => by have := (hao _ e.symm).1; omega))) ?_
            clear HK1
            rw [midK]
            obtain ⟨t0', t1', t2', t3'⟩ := hQ8.c2
            have hz8 := hown8.blk
            clear HSI HSI2 HSB HSE hg8'
            go_wp2
            refine NoPanic.normal ?_
            go_wp2
            go_roundw
            case rel => exact ⟨k + 1, m + 1, a8, c8, by go_num, by omega, by omega, by show _ = _; rw [HP1.out]; simp [hm.out], by simpa using hQ8.set_ 1 (.slice a8 (m + 1) c8), by rw [HP1.out]; exact hown8.far (hown8.blk_ne hQ8 (by decide)) _, hb8.setCell (p := ⟨gq, 1, none⟩) (Nat.le_refl _) _⟩
            case measure => simp [intOf]; omega
          have k0 : (x.kind == 0) = false := by simpa using h0
          have HP1 := hide (show pickF st 0 (l.take (k + 1)) = pickF st 0 (l.take k) by rw [HSN.out, if_neg (by rw [hsk0]; simp [h7, h0])])
          clear hsk0 h0 h7
          go_wp2
          go_roundw
          case rel => exact ⟨k + 1, m, ao, co, by go_num, by omega, by omega, by show _ = _; rw [HP1.out]; exact hm.out, hQ, by rw [HP1.out]; exact hown, hb⟩
          case measure => simp [intOf]; omega
      · obtain rfl : on = k := by omega
        have hE9 : l.take on = l := by rw [HLN.out]; exact List.take_length
        rw [hE9, HST.out] at hown
        rw [hE9, HST.out] at hm
        have hR4 := hR1.belowN hbe
        obtain ⟨s0, s1, s2, s3⟩ := hR4.c2
        clear hE9
        go_wp2
        try simp only [Exit.then, Exit.inBlock]
        try rw [Exit.noGoto_ret]
        have hF6 := (hR4.set_ 0 (.int .i64 regs)).set_ 1 (.slice ao m co)
        have hB4 := hB2.trans (hbe.mono hB2.size)
        refine bodyPost_ret (results_row_tmp rfl _ _ (w.heap.size + 1) _ #[.int .i64 regs, .slice ao m co] (0, 0) _ rfl hF6 Try.underlying24 rfl (by kernel_rfl)) rfl ?_
        exact ⟨ao, co, m, rfl, hm.out, ((hown.farLt (p := ⟨w.heap.size + 1, 0, none⟩) hrl _).farLt (p := ⟨w.heap.size + 1, 1, none⟩) hrl _).mono (Nat.le_of_lt (Nat.lt_of_le_of_lt (Nat.le_succ _) hrl)), ((hB4.setCell (p := ⟨w.heap.size + 1, 0, none⟩) (Nat.le_succ _) _).setCell (p := ⟨w.heap.size + 1, 1, none⟩) (Nat.le_succ _) _)⟩
  · rw [if_neg hE0] at hL
    subst hL
    have e1 : regsIf E regs = 0 := by unfold regsIf; rw [if_neg hE0]
    have e2 : (E == 0) = false := by simpa using hE0
    have e3 : (E != 0) = true := by simpa using hE0
    rw [e1]
    clear e1 hE0 hE hO hon hln hno hfn hFi hC
    go_enter Try.func45, Try.ntmps45
    go_wp2_with (go_at_call 90; go_must ((with_reducible refine (HN.out).mono ?_); rintro e w1 ⟨a1, c1, a2, c2, rfl, hown1, hown2, hb1⟩; have hn1 := (below_new12 w1 (.cells #[.slice a1 on c1, .slice a2 fn c2, .int .i64 (C : Int)] 145)); have hC1 := hb1.trans (hn1.mono hb1.size); have hR2 := hR.belowN hC1; obtain ⟨r0, r1, r2, r3⟩ := hR2.c2; have hB1 := hb0.trans (hC1.mono hb0.size)))
    try simp only [Exit.then, Exit.inBlock]
    try rw [Exit.noGoto_ret]
    have hF6 := (hR2.set_ 0 (.int .i64 0)).set_ 1 (.slice none 0 0)
    refine bodyPost_ret (results_row_tmp rfl _ _ (w.heap.size + 1) _ #[.int .i64 0, .slice none 0 0] (0, 0) _ rfl hF6 Try.underlying24 rfl (by kernel_rfl)) rfl ?_
    exact ⟨none, 0, 0, rfl, rfl, Own.none _ _ _, ((hB1.setCell (p := ⟨w.heap.size + 1, 0, none⟩) (Nat.le_succ _) _).setCell (p := ⟨w.heap.size + 1, 1, none⟩) (Nat.le_succ _) _)⟩
end Go.Proofs.Ythncfoompoheoaa
