/- Chapter 17: tidy.Open (blocks that do nothing, and brackets of those that are taken once, left out). -/
import Derived.Test.YthncfoompoheoaaW17b
import Derived.Test.YthncfoompoheoaaQi
import Derived.Test.YthncfoompoheoaaRg2
namespace Go.Proofs.Ythncfoompoheoaa
set_option linter.unusedVariables false
set_option linter.unusedSimpArgs false
open Go.RowKit
noncomputable def openL (regs : Int) (l : List OpD) : List OpD := if checkS regs l = 0 then (fo l).opn.flat else []
/-- what is gone, so far -/
def gAt (F : List OpD) (M Z : List Int) (k : Nat) : List Bool := gF 0 (List.replicate F.length false) (F.take k) (M.take k) (Z.take k)
theorem gAt_length (F : List OpD) (M Z : List Int) (k : Nat) : (gAt F M Z k).length = F.length := by unfold gAt; rw [gF_length]; simp
theorem gAt_succ {F : List OpD} {M Z : List Int} {k : Nat} {x : OpD} {m z : Int} (h1 : F[k]? = some x) (h2 : M[k]? = some m) (h3 : Z[k]? = some z) : gAt F M Z (k + 1) = gstep (gAt F M Z k) k x m z := by
  have k1 := (List.getElem?_eq_some_iff.1 h1).1
  have k2 := (List.getElem?_eq_some_iff.1 h2).1
  have k3 := (List.getElem?_eq_some_iff.1 h3).1
  unfold gAt
  rw [List.take_add_one, List.take_add_one, List.take_add_one, h1, h2, h3]
  simp only [Option.toList]
  rw [gF_append _ _ _ _ _ _ _ _ (by simp; omega) (by simp; omega), List.length_take, Nat.min_eq_left (by omega), Nat.zero_add]
  rfl
theorem gAt_all (f : Fo) (hf : f.ok) : gAt f.flat (mtT 0 f) f.sizes f.flat.length = gon f := by
  have h := gone_all f hf
  unfold gAt
  rw [List.take_of_length_le (Nat.le_refl _), List.take_of_length_le (by rw [mtT_length]; exact Nat.le_refl _), List.take_of_length_le (by rw [Fo.sizes_length]; exact Nat.le_refl _)]
  exact h
/-- Where a block ends. -/
theorem at_rep0 (f : Fo) (hf : f.ok) {k : Nat} {x : OpD} (h : f.flat[k]? = some x) (h7 : x.kind = 7) : ∃ m : Nat, (mtT 0 f)[k]? = some (m : Int) ∧ k < m ∧ m < f.flat.length := by
  obtain ⟨b, fin, pre, rest, _, _, e, e1, e2⟩ := at_rep f hf 0 k x h h7
  refine ⟨0 + k + b.size + 1, e2, by omega, ?_⟩
  rw [e]
  have : b.flat.length = b.size := rfl
  simp only [List.length_append, List.length_cons]
  omega
set_option maxRecDepth 100000 in
set_option maxHeartbeats 6400000 in
theorem open_good (regs : Int) (a : Option Addr) (c n : Nat) (f : Fo) (hn : n = f.flat.length) (g : Good regs f) (w : World) (h : At w a f.flat) :
    Calls Try.prog 46 #[.agg #[.int .i64 regs, .slice a n c]] w (ProgOut regs 0 f.opn.flat w) := by
  have hl : f.flat.length ≤ 4096 := g.len
  have hb0 := (below_new12 w (.cells #[.int .i64 regs, .slice a n c] 24)).alloc (by simp) (.cells #[.int .i64 0, .slice none 0 0] 24)
  have hX := (Blk.new w 24 #[.int .i64 regs, .slice a n c]).alloc (.cells #[.int .i64 0, .slice none 0 0] 24)
  have hR := Blk.new (w.alloc (.cells #[.int .i64 regs, .slice a n c] 24)) 24 #[.int .i64 0, .slice none 0 0]
  simp only [World.size_alloc] at hR
  have h1 := h.belowN hb0
  have HP := hide (Prog_calls regs a c f.flat _ h1 (by omega))
  have HM := hide (fun w' (g1 : At w' a f.flat) => MatchW a c f.flat w' g1 (by omega) (well_of_flat f g.ok))
  have HZ := hide (fun w' (g1 : At w' a f.flat) => SizeZ_calls a c f.flat w' g1 (by omega))
  obtain ⟨z1, z2, z3, z4⟩ := W9_ok g.ok ⟨g.may, g.few⟩
  rw [z1, z3, f.sizes_length] at HZ
  change Hid (∀ w', At w' a f.flat → Calls Try.prog 93 #[.slice a f.flat.length c] w' fun e w'' => ∃ a' c', e = .returned (.tuple #[.slice a' f.flat.length c', .int .i64 0]) ∧ Own w'' w'.heap.size 3 a' c' f.sizes ∧ Below w'.heap.size w' w'') at HZ
  rw [g.check] at HP
  rw [matchL_flat f g.ok] at HM
  have HALL := hide (gAt_all f g.ok)
  have HREP := hide (fun (k : Nat) (x : OpD) (h : f.flat[k]? = some x) (h7 : x.kind = 7) => at_rep0 f g.ok h h7)
  have HGON := hide (gon_flat f)
  have HML := hide (show (mtT 0 f).length = f.flat.length from mtT_length f 0)
  have HZL := hide (show f.sizes.length = f.flat.length from f.sizes_length)
  have HGL := hide (show (gon f).length = f.flat.length from gon_length f)
  obtain ⟨F, hF⟩ : ∃ F, f.flat = F := ⟨_, rfl⟩
  obtain ⟨M, hM⟩ : ∃ M, mtT 0 f = M := ⟨_, rfl⟩
  obtain ⟨Z, hZ⟩ : ∃ Z, f.sizes = Z := ⟨_, rfl⟩
  obtain ⟨L, hL⟩ : ∃ L, f.opn.flat = L := ⟨_, rfl⟩
  obtain ⟨G, hG⟩ : ∃ G, gon f = G := ⟨_, rfl⟩
  rw [hF] at HP HM HZ HALL HREP HGON HML HZL HGL h h1 hl hn
  rw [hM] at HM HALL HREP HML
  rw [hZ] at HZ HALL HZL
  rw [hG] at HALL HGON HGL
  rw [hL] at HGON ⊢
  rw [← hn] at HP HM HZ HML HZL HALL HGL hl
  have HN := hide hn
  clear z1 z2 z3 z4 hF hM hZ hL hG hn g
  go_enter Try.func46, Try.ntmps46
  go_wp2_with (first
    | (go_at_call 91; go_must ((with_reducible refine (HP.out).mono ?_); rintro e w1 ⟨rfl, hb1⟩; have hB1 := hb0.trans (hb1.mono hb0.size); obtain ⟨p0, p1, p2, p3⟩ := (hX.belowN hb1).c2))
    | (go_at_call 92; go_must ((with_reducible refine (HM.out _ (h1.belowN hb1)).mono ?_); rintro e w2 ⟨am, cm, rfl, hom, hb2⟩; have hC2 := hb1.trans (hb2.mono hb1.size); obtain ⟨q0, q1, q2, q3⟩ := (hX.belowN hC2).c2))
    | (go_at_call 93; go_must ((with_reducible refine (HZ.out _ (h1.belowN hC2)).mono ?_); rintro e w3 ⟨az, cz, rfl, hoz, hb3⟩; have hC3 := hC2.trans (hb3.mono hC2.size); have hX3 := hX.belowN hC3; have hR3 := hR.belowN hC3; have hm3 := (hom.belowN hb3).at_; have hz3 := hoz.at_; have hl3 := h1.belowN hC3; obtain ⟨u0, u1, u2, u3⟩ := hX3.c2; have hB3 := hb0.trans (hC3.mono hb0.size)))
    | (at_make; go_must (refine wpList_mk tyB0 (B := w3.heap.size) (n := n) rfl rfl rfl rfl rfl rfl (Nat.le_refl _) (by omega) ?_; intro w4 hown4 hg4; have hb4 := below_of_grown hg4; have hn4 := below_new12 w4 (.cells #[.slice (some ⟨w3.heap.size, 0, none⟩) n n] 138); have hB5 := hb4.trans (hn4.mono hb4.size); have hown5 := hown4.belowN hn4; have hG5 := Blk.new w4 138 #[.slice (some ⟨w3.heap.size, 0, none⟩) n n]; obtain ⟨v0, v1, v2, v3⟩ := (hX3.belowN hB5).c2)))
  have hz5 := hB5.size
  have hm5 := hm3.belowN hB5
  have hzz5 := hz3.belowN hB5
  have hl5 := hl3.belowN hB5
  have hX5 := hX3.belowN hB5
  have hR5 := hR3.belowN hB5
  have hxl := hX3.lt
  have hrl := hR3.lt
  have hgB : w3.heap.size ≤ w4.heap.size := hb4.size
  have hgN : w3.heap.size < w4.heap.size := (hown4.blk w3.heap.size rfl).2
  have hG0 : gAt F M Z 0 = List.replicate n false := by unfold gAt; rw [← HN.out]; rfl
  rw [← hG0] at hown5
  obtain ⟨W5, hW5⟩ : ∃ W5, W5 = w4.alloc (.cells #[.slice (some ⟨w3.heap.size, 0, none⟩) n n] 138) := ⟨_, rfl⟩
  rw [← hW5] at hB5 hown5 hG5 v0 v1 v2 v3 hz5 hm5 hzz5 hl5 hX5 hR5 ⊢
  obtain ⟨gB, hgBe⟩ : ∃ gB, gB = w4.heap.size := ⟨_, rfl⟩
  rw [← hgBe] at hG5 hgB hgN ⊢
  obtain ⟨gL, hgLe⟩ : ∃ gL, gL = w3.heap.size := ⟨_, rfl⟩
  rw [← hgLe] at hG5 hgB hgN hown5 hB5 hxl hrl ⊢
  have HGLE := hide hgLe
  clear hgLe hW5 hgBe hG0 hb4 hg4 hown4 hn4
  go_loopw [38] (fun kv wr => ∃ k : Nat, kv = .int .i64 k ∧ k ≤ n ∧ Own wr gL 4 (some ⟨gL, 0, none⟩) n (gAt F M Z k) ∧ Blk wr gB 138 #[.slice (some ⟨gL, 0, none⟩) n n] ∧ Below gL w3 wr) (fun kv _ => n - (intOf kv).toNat)
  case atStart => exact ⟨0, rfl, by omega, hown5, hG5, hB5⟩
  case round =>
    obtain ⟨k, rfl, hk, hown, hG, hb⟩ := hrel
    have hzr := hb.size
    have hbe : Below w3.heap.size w3 wr := by rw [← HGLE.out]; exact hb
    by_cases hlt : k < n
    · obtain ⟨b1, off1, x, rfl, hx, x0, x1, x2, x3, x4⟩ := hl3.getOp hbe (by rw [← HN.out]; exact hlt)
      obtain ⟨b2, off2, m, rfl, hm, y0⟩ := hm3.getI hbe (k := k) (by rw [HML.out]; exact hlt)
      obtain ⟨b2', off2', m', ha', hm', y3⟩ := hm3.getI (Below.refl _ _) (k := k) (by rw [HML.out]; exact hlt)
      cases ha'
      obtain rfl : m = m' := by have := hm.out.symm.trans hm'.out; simpa using this
      have hm3w : b2 < w3.heap.size := World.block_lt_of_cell? _ _ y3
      obtain ⟨b3, off3, z, rfl, hz, z0⟩ := hz3.getI hbe (k := k) (by rw [HZL.out]; exact hlt)
      have HS := hide (gAt_succ hx.out hm.out hz.out)
      have hGl : (gAt F M Z k).length = n := by rw [gAt_length, HN.out]
      have HGL := hide hGl
      have hnA := below_new12 wr (.cells #[.int .i64 x.kind, .int .i64 x.d, .int .i64 x.a, .int .i64 x.b, .int .u64 (x.v.toNat : Int)] 99)
      have hbA := hb.alloc (show gL ≤ wr.heap.size from Nat.le_of_lt (hown.blk gL rfl).2) (.cells #[.int .i64 x.kind, .int .i64 x.d, .int .i64 x.a, .int .i64 x.b, .int .u64 (x.v.toNat : Int)] 99)
      have hownA := hown.belowN hnA
      have hGA := hG.belowN hnA
      obtain ⟨g0, g1⟩ := hGA.c1
      have z0A := ((bcell hnA).1 b3 (off3 + k) (World.block_lt_of_cell? _ _ z0)).trans z0
      have y0A := ((bcell hnA).1 b2 (off2 + k) (World.block_lt_of_cell? _ _ y0)).trans y0
      clear hGl
      by_cases h7 : x.kind = 7
      case neg =>
        have k7 : (x.kind == 7) = false := by simpa using h7
        have n7 : (x.kind != 7) = true := by simpa using h7
        have HE := hide (show gAt F M Z (k + 1) = gAt F M Z k by rw [HS.out]; unfold gstep; rw [if_neg h7])
        clear h7
        go_wp2
        go_roundw
        case rel => exact ⟨k + 1, by go_num, by omega, by rw [HE.out]; exact hownA, hGA, hbA⟩
        case measure => simp [intOf]; omega
      obtain ⟨mm, hmm, hkm, hmn⟩ := HREP.out k x hx.out h7
      obtain rfl : m = (mm : Int) := by have := hm.out.symm.trans hmm; simpa using this
      have k7 : (x.kind == 7) = true := by simpa using h7
      have n7 : (x.kind != 7) = false := by simpa using h7
      rw [← HN.out] at hmn
      clear hmm hm
      by_cases hz0 : z = 0
      · subst hz0
        have HE := hide (show gAt F M Z (k + 1) = setR (gAt F M Z k) k (mm + 1 - k) by rw [HS.out]; unfold gstep; rw [if_pos h7, if_pos rfl, Int.toNat_natCast])
        have hS0 : setR (gAt F M Z k) k (k - k) = gAt F M Z k := by rw [Nat.sub_self, setR_zero]
        rw [← hS0] at hownA
        have hb2w : b2 < w3.heap.size := hm3w
        clear h7 hz hx hS0
        obtain ⟨wo, rfl⟩ : ∃ wo : World, wo = wr := ⟨_, rfl⟩
        go_wp2
        go_loopw [12] (fun qv wr => ∃ q : Nat, qv = .int .i64 q ∧ k ≤ q ∧ q ≤ mm + 1 ∧ Own wr gL 4 (some ⟨gL, 0, none⟩) n (setR (gAt F M Z k) k (q - k)) ∧ Blk wr gB 138 #[.slice (some ⟨gL, 0, none⟩) n n] ∧ Below gL w3 wr) (fun qv _ => mm + 1 - (intOf qv).toNat)
        case atStart => exact ⟨k, rfl, by omega, by omega, hownA, hGA, hbA⟩
        case round =>
          obtain ⟨q, rfl, hq1, hq2, hownq, hGq, hbq⟩ := hrel
          have hbqe : Below w3.heap.size w3 wr := by rw [← HGLE.out]; exact hbq
          have y0q := ((bcell hbqe).1 b2 (off2 + k) hb2w).trans y3
          have hqz := hbq.size
          by_cases hqm : q ≤ mm
          · have hqn : q < n := by omega
            have hset := setR_succ (gAt F M Z k) k (q - k) (by rw [HGL.out]; omega)
            rw [show k + (q - k) = q by omega, show q - k + 1 = q + 1 - k by omega] at hset
            have HSET := hide hset
            have hfq := hownq.frozen q
            obtain ⟨y9, v9, _, _, hc9⟩ := hownq.cell1 (i := q) (by rw [setR_length, HGL.out]; exact hqn) rfl
            obtain ⟨t0, t1⟩ := hGq.c1
            have hi1 : (q : Int) ≤ (mm : Int) := by omega
            have hownN := hownq.set1 q true (.bool true) rfl
            rw [HSET.out] at hownN
            have hbqN := hbq.setCell (p := ⟨gL, q, none⟩) (Nat.le_refl _) (.bool true)
            have hGN := hGq.far (p := ⟨gL, q, none⟩) (by show gB ≠ gL; omega) (.bool true)
            clear hset
            go_wp2
            go_roundw
            case rel => exact ⟨q + 1, by go_num, by omega, by omega, hownN, hGN, hbqN⟩
            case measure => simp [intOf]; omega
          · obtain rfl : q = mm + 1 := by omega
            have hi1 : ¬ ((mm + 1 : Nat) : Int) ≤ (mm : Int) := by omega
            go_wp2
            go_roundw
            case rel => exact ⟨k + 1, by go_num, by omega, by rw [HE.out]; exact hownq, hGq, hbq⟩
            case measure => simp [intOf]; omega
      · have hzz0 : (z == 0) = false := by simpa using hz0
        by_cases hv : x.v = 1
        · have v1 : ((x.v.toNat : Int) == 1) = true := by rw [hv]; rfl
          have HE := hide (show gAt F M Z (k + 1) = ((gAt F M Z k).set k true).set mm true by rw [HS.out]; unfold gstep; rw [if_pos h7, if_neg hz0, if_pos hv, Int.toNat_natCast])
          obtain ⟨y8, v8, _, _, hc8⟩ := hownA.cell1 (i := k) (by rw [HGL.out]; exact hlt) rfl
          obtain ⟨y9, v9, _, _, hc9⟩ := hownA.cell1 (i := mm) (by rw [HGL.out]; exact hmn) rfl
          have f8 := hownA.frozen k
          have f9 := hownA.frozen mm
          have hgLB : gL ≠ gB := by omega
          have hgL2 : gL ≠ b2 := by have := hm3w; rw [← HGLE.out] at this; omega
          clear h7 hz hx hz0 hv
          go_wp2
          go_region
          go_wp2
          go_roundw
          case rel => exact ⟨k + 1, by go_num, by omega, by rw [HE.out]; exact (hownA.set1 k true (.bool true) rfl).set1 mm true (.bool true) rfl, (hGA.far (p := ⟨gL, k, none⟩) (Ne.symm hgLB) _).far (p := ⟨gL, mm, none⟩) (Ne.symm hgLB) _, ((hbA.setCell (p := ⟨gL, k, none⟩) (Nat.le_refl _) _).setCell (p := ⟨gL, mm, none⟩) (Nat.le_refl _) _).drew⟩
          case measure => simp [intOf]; omega
        · have v1 : ((x.v.toNat : Int) == 1) = false := by
            have : x.v.toNat ≠ 1 := fun h => hv (UInt64.toNat_inj.1 (by rw [h]; rfl))
            simp; omega
          have HE := hide (show gAt F M Z (k + 1) = gAt F M Z k by rw [HS.out]; unfold gstep; rw [if_pos h7, if_neg hz0, if_neg hv])
          clear h7 hz hx hz0 hv
          go_wp2
          go_roundw
          case rel => exact ⟨k + 1, by go_num, by omega, by rw [HE.out]; exact hownA, hGA, hbA⟩
          case measure => simp [intOf]; omega
    · obtain rfl : n = k := by omega
      rw [HALL.out] at hown
      have hX2 := hX3.belowN hbe
      have hR2 := hR3.belowN hbe
      have h2 := hl3.belowN hbe
      have hO2 := hown.at_
      have hB2 := hB3.trans (hbe.mono hB3.size)
      have hz2 := hB2.size
      obtain ⟨p0', p1', _, _⟩ := hX2.c2
      have hzo := hR2.lt
      have hxo := hX2.lt
      have hd9 : Below wr.heap.size wr wr.drew := Below.drew (Below.refl _ _)
      have HST := hide ((pickF_gone (fun k => !((G[k]?).getD false)) F G 0 (by rw [HGL.out, HN.out]) (fun k b hb => by rw [Nat.zero_add, hb]; rfl)).trans HGON.out)
      have HSC := hide (fun W3 (hb3 : Below wr.heap.size wr W3) => siftO_calls (.pointer (some ⟨gB, 0, none⟩)) a c n F HN.out (fun k => !((G[k]?).getD false)) W3 (h2.belowN hb3) (by omega) (fun k hk W hb => by
        have hbW := hb3.trans (hb.mono hb3.size)
        have hkO : k < G.length := by rw [HGL.out]; exact hk
        have e2 : G[k]? = some G[k] := List.getElem?_eq_getElem hkO
        have := OpenClo_calls (some ⟨gL, 0, none⟩) n n G HGL.out.symm gB k G[k] e2 (by omega) W (hO2.belowN hbW) (hG.belowN hbW)
        rw [e2]
        exact this))
      rw [HST.out] at HSC
      obtain ⟨S', hS'⟩ : ∃ S' : World → Prop, S' = fun w' => w'.cell? ⟨w.heap.size, 0, none⟩ = some (.int .i64 regs) ∧ w'.cell? ⟨w.heap.size, 1, none⟩ = some (.slice a n c) := ⟨_, rfl⟩
      have HSE : Hid (∀ w', S' w' → w'.cell? ⟨w.heap.size, 0, none⟩ = some (.int .i64 regs) ∧ w'.cell? ⟨w.heap.size, 1, none⟩ = some (.slice a n c)) := hide fun w' h => by rw [hS'] at h; exact h
      have HSI4 : Hid (∀ w4, Below wr.heap.size wr w4 → S' w4) := by
        show ∀ w4, _ → _
        intro w4 hb4
        obtain ⟨y0, _⟩ := bcell hb4
        rw [hS']
        exact ⟨(y0 _ _ hxo).trans p0', (y0 _ _ hxo).trans p1'⟩
      clear hS' HGLE
      go_wp2
      refine wp_region_calls 5 7 S' (by kernel_rfl) (by kernel_rfl) (HSI4.out _ hd9) ?_
      simp only [List.take_succ_cons, List.take_zero, List.drop_succ_cons, List.drop_zero, Nat.reduceSub]
      iterate 5
        apply headK_step (by rfl)
        · intro w' hw'
          obtain ⟨s0, s1⟩ := HSE.out w' hw'
          go_simp
          rfl
        intro a' ha'
        simp only [Act.put, List.setIfInBounds_toArray, List.set_cons_succ, List.set_cons_zero] at ha'
        subst ha'
      refine headK_nil ?_
      rw [midK]
      intro K0 hK0
      have HK0 := hide hK0
      clear hK0
      go_simp
      go_at_call 87
      refine (HSC.out _ hd9).mono ?_
      rintro e w4 ⟨a4, c4, m4, rfl, hm4, hown4, hb4⟩
      have HM4 := hide hm4
      clear hm4
      have hB4 := hd9.trans (hb4.mono hd9.size)
      refine HK0.out _ _ (HSI4.out w4 hB4) ?_
      clear HK0
      rw [midK]
      intro K1 hK1
      have HK1 := hide hK1
      clear hK1
      go_simp
      refine HK1.out _ _ (HSI4.out w4 hB4) ?_
      clear HK1
      rw [midK]
      have hR4 := hR2.belowN hB4
      obtain ⟨s0, s1, s2, s3⟩ := hR4.c2
      clear HSI4 HSE HSC
      go_wp2
      refine NoPanic.normal ?_
      go_wp2
      try simp only [Exit.then, Exit.inBlock]
      try rw [Exit.noGoto_ret]
      have hF6 := (hR4.set_ 0 (.int .i64 regs)).set_ 1 (.slice a4 m4 c4)
      have hC4 := hB2.trans (hB4.mono hz2)
      refine bodyPost_ret (results_row_tmp rfl _ _ (w.heap.size + 1) _ #[.int .i64 regs, .slice a4 m4 c4] (0, 0) _ rfl hF6 Try.underlying24 rfl (by kernel_rfl)) rfl ?_
      exact ⟨a4, c4, m4, rfl, HM4.out, ((hown4.farLt (p := ⟨w.heap.size + 1, 0, none⟩) hzo _).farLt (p := ⟨w.heap.size + 1, 1, none⟩) hzo _).mono (show w.heap.size ≤ wr.drew.heap.size from Nat.le_of_lt (Nat.lt_of_le_of_lt (Nat.le_succ _) hzo)), ((hC4.setCell (p := ⟨w.heap.size + 1, 0, none⟩) (Nat.le_succ _) _).setCell (p := ⟨w.heap.size + 1, 1, none⟩) (Nat.le_succ _) _)⟩
theorem Open_calls (regs : Int) (a : Option Addr) (c ln : Nat) (l : List OpD) (hln : ln = l.length) (w : World) (h : At w a l) (hl : ln ≤ 1000000) (E : Int) (L : List OpD) (hE : checkS regs l = E) (hL : openL regs l = L) :
    Calls Try.prog 46 #[.agg #[.int .i64 regs, .slice a ln c]] w (ProgOut (regsIf E regs) E L w) := by
  unfold openL at hL
  rw [hE] at hL
  by_cases hE0 : E = 0
  · subst hE0
    rw [if_pos rfl] at hL
    obtain ⟨f, rfl, g⟩ := good_of_check hE
    rw [fo_flat g.ok] at hL
    subst hL
    have e1 : regsIf 0 regs = regs := by unfold regsIf; rw [if_pos rfl]
    rw [e1]
    exact open_good regs a c ln f hln g w h
  · rw [if_neg hE0] at hL
    subst hL
    have hb0 := (below_new12 w (.cells #[.int .i64 regs, .slice a ln c] 24)).alloc (by simp) (.cells #[.int .i64 0, .slice none 0 0] 24)
    have hR := Blk.new (w.alloc (.cells #[.int .i64 regs, .slice a ln c] 24)) 24 #[.int .i64 0, .slice none 0 0]
    simp only [World.size_alloc] at hR
    have h1 := h.belowN hb0
    subst hln
    have HP := hide (Prog_calls regs a c l _ h1 hl)
    rw [hE] at HP
    have e1 : regsIf E regs = 0 := by unfold regsIf; rw [if_neg hE0]
    have e2 : (E == 0) = false := by simpa using hE0
    have e3 : (E != 0) = true := by simpa using hE0
    rw [e1]
    clear e1 hE0 hE
    go_enter Try.func46, Try.ntmps46
    go_wp2_with (go_at_call 91; go_must ((with_reducible refine (HP.out).mono ?_); rintro e w1 ⟨rfl, hb1⟩; have hB1 := hb0.trans (hb1.mono hb0.size); have hR2 := hR.belowN hb1; obtain ⟨r0, r1, r2, r3⟩ := hR2.c2))
    try simp only [Exit.then, Exit.inBlock]
    try rw [Exit.noGoto_ret]
    have hF6 := (hR2.set_ 0 (.int .i64 0)).set_ 1 (.slice none 0 0)
    refine bodyPost_ret (results_row_tmp rfl _ _ (w.heap.size + 1) _ #[.int .i64 0, .slice none 0 0] (0, 0) _ rfl hF6 Try.underlying24 rfl (by kernel_rfl)) rfl ?_
    exact ⟨none, 0, 0, rfl, rfl, Own.none _ _ _, ((hB1.setCell (p := ⟨w.heap.size + 1, 0, none⟩) (Nat.le_succ _) _).setCell (p := ⟨w.heap.size + 1, 1, none⟩) (Nat.le_succ _) _)⟩
end Go.Proofs.Ythncfoompoheoaa
