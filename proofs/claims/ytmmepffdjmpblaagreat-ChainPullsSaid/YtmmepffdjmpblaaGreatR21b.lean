/- Chapter 21, the document's answers: Record, Undo. -/
import Derived.Test.YtmmepffdjmpblaaGreatR21a
namespace Go.Proofs.YtmmepffdjmpblaaGreat
set_option linter.unusedVariables false
set_option linter.unusedSimpArgs false
open Go.RowKit

theorem tpR_take (l : List OpD) (r t : List UInt64) {k : Nat} {x : OpD} (h : l[k]? = some x) (hk : k < t.length) : tpR (l.take (k + 1)) r t = (tpR (l.take k) r t).set k (getR (runR (l.take k) r) x.d) := by
  have hl : (l.take k).length = k := by have := (List.getElem?_eq_some_iff.1 h).1; simp; omega
  rw [List.take_add_one, h]
  show tpR (l.take k ++ [x]) r t = _
  rw [tpR_snoc _ _ _ _ (by omega), hl]
theorem good_inR {regs : Int} {f : Fo} (g : Good regs f) : ∀ x ∈ f.unroll, InR regs x := fun x hx => by
  obtain ⟨h1, h2, h3⟩ := f.unroll_mem g.ok x hx
  exact g.inF x h1 h2 h3
set_option maxRecDepth 100000 in
set_option maxHeartbeats 800000 in
theorem Record21_bad (regs : Int) (a : Option Addr) (c : Nat) (l : List OpD) (ra : Option Addr) (rc : Nat) (r : List UInt64) (ta : Option Addr) (tc : Nat) (t : List UInt64) (w : World) (h : At w a l) (hl : l.length ≤ 1000000) (hr : At w ra r) (ht : At w ta t) (hrn : r.length ≤ 1000000) (htn : t.length ≤ 1000000) (hc : readyS regs l r.length t.length ≠ 0) :
    Calls Tryz.prog 47 #[.agg #[.int .i64 regs, .slice a l.length c], .slice ra r.length rc, .slice ta t.length tc] w fun e w' => ∃ a1 c1 a2 c2, e = .returned (.tuple #[.slice a1 r.length c1, .slice a2 t.length c2, .int .i64 0, .int .i64 (readyS regs l r.length t.length)]) ∧ Own w' w.heap.size 50 a1 c1 r ∧ Own w' w.heap.size 50 a2 c2 t ∧ Below w.heap.size w w' := by
  have hb0 := below_new12 w (.cells #[.int .i64 regs, .slice a l.length c] 24)
  have HP := hide (ready21_err regs a c l ra r.length rc ta t.length tc _ (h.belowN hb0) hl hrn htn hc)
  obtain ⟨E, hE⟩ : ∃ E, E = readyS regs l r.length t.length := ⟨_, rfl⟩
  rw [← hE] at HP hc ⊢
  have e1 : (E == 0) = false := by simpa using hc
  have e2 : (E != 0) = true := by simpa using hc
  have hr1 := hr.belowN hb0
  have ht1 := ht.belowN hb0
  clear hE hc
  obtain ⟨P, hP⟩ : ∃ P, P = (fun e w' => ∃ a1 c1 a2 c2, e = Ending.returned (.tuple #[.slice a1 r.length c1, .slice a2 t.length c2, .int .i64 0, .int .i64 E]) ∧ Own w' w.heap.size 50 a1 c1 r ∧ Own w' w.heap.size 50 a2 c2 t ∧ Below w.heap.size w w') := ⟨_, rfl⟩
  rw [← hP]
  have HPP := hide hP
  clear hP
  go_enter Tryz.func47, Tryz.ntmps47
  go_wp2_with (first
    | (go_at_call 67; ((with_reducible refine (HP.out).mono ?_); rintro e w1 ⟨rfl, hb1⟩; have hB1 := hb0.trans (hb1.mono hb0.size); have hr2 := hr1.belowN hb1; have ht2 := ht1.belowN hb1))
    | (go_at_call 68; first
        | ((with_reducible refine (Copy21_calls ta tc t w2 ht3 htn).mono ?_); rintro e w3 ⟨a3, c3, rfl, hown3, hb3⟩)
        | go_must ((with_reducible refine (Copy21_calls ra rc r w1 hr2 hrn).mono ?_); rintro e w2 ⟨a2, c2, rfl, hown2, hb2⟩; have ht3 := ht2.belowN hb2)))
  refine bodyPost_ret (v := .tuple #[.slice a2 r.length c2, .slice a3 t.length c3, .int .i64 0, .int .i64 E]) (by simp [results, Tryz.results47, go_sem]) rfl ?_
  have hB2 := hB1.trans (hb2.mono hB1.size)
  rw [HPP.out]
  exact ⟨a2, c2, a3, c3, rfl, (hown2.mono hB1.size).belowN hb3, hown3.mono hB2.size, hB2.trans (hb3.mono hB2.size)⟩
set_option maxRecDepth 100000 in
set_option maxHeartbeats 3200000 in
theorem Record21_good (regs : Int) (a : Option Addr) (c : Nat) (f : Fo) (g : Good regs f) (ra : Option Addr) (rc : Nat) (r : List UInt64) (ta : Option Addr) (tc : Nat) (t : List UInt64) (w : World) (h : At w a f.flat) (hr : At w ra r) (ht : At w ta t) (htn : t.length ≤ 1000000) (hn : (r.length : Int) = regs) (hu : f.unroll.length ≤ t.length) :
    Calls Tryz.prog 47 #[.agg #[.int .i64 regs, .slice a f.flat.length c], .slice ra r.length rc, .slice ta t.length tc] w fun e w' => ∃ a1 c1 a2 c2, e = .returned (.tuple #[.slice a1 r.length c1, .slice a2 t.length c2, .int .i64 (f.unroll.length : Int), .int .i64 0]) ∧ Own w' w.heap.size 50 a1 c1 (runR f.unroll r) ∧ Own w' w.heap.size 50 a2 c2 (tpR f.unroll r t) ∧ Below w.heap.size w w' := by
  have hr64 : r.length ≤ 64 := by have := g.r2; omega
  have hul : f.unroll.length ≤ 65536 := by rw [Fo.unroll_length]; exact g.few
  have hb0 := below_new12 w (.cells #[.int .i64 regs, .slice a f.flat.length c] 24)
  have HP := hide (ready21_ok regs a c f g ra r.length rc ta t.length tc _ (h.belowN hb0) (by omega) htn hn hu)
  have HIN := hide (good_inR g)
  have hr1 := hr.belowN hb0
  have ht1 := ht.belowN hb0
  generalize f.unroll = U at *
  have HN := hide hn
  have HU := hide hu
  obtain ⟨nr, hnr⟩ : ∃ nr, nr = r.length := ⟨_, rfl⟩
  obtain ⟨nt, hnt⟩ : ∃ nt, nt = t.length := ⟨_, rfl⟩
  have HNR := hide hnr
  have HNT := hide hnt
  have HC1 := hide (fun W (h : At W ra r) => Copy21_calls ra rc r W h (by omega))
  have HC2 := hide (fun W (h : At W ta t) => Copy21_calls ta tc t W h htn)
  rw [← hnr] at HP HC1 hr64
  rw [← hnt] at HP HC2 htn hu
  rw [← hnr, ← hnt]
  clear g hn hnr hnt
  obtain ⟨P, hP⟩ : ∃ P, P = (fun e w' => ∃ a1 c1 a2 c2, e = Ending.returned (.tuple #[.slice a1 nr c1, .slice a2 nt c2, .int .i64 (U.length : Int), .int .i64 0]) ∧ Own w' w.heap.size 50 a1 c1 (runR U r) ∧ Own w' w.heap.size 50 a2 c2 (tpR U r t) ∧ Below w.heap.size w w') := ⟨_, rfl⟩
  rw [← hP]
  have HPP := hide hP
  clear hP
  go_enter Tryz.func47, Tryz.ntmps47
  go_wp2_with (first
    | (go_at_call 67; ((with_reducible refine (HP.out).mono ?_); rintro e w1 ⟨a1, c1, rfl, hown1, hb1⟩; have hB1 := hb0.trans (hb1.mono hb0.size); have hr2 := hr1.belowN hb1; have ht2 := ht1.belowN hb1))
    | (go_at_call 68; first
        | ((with_reducible refine (HC2.out _ ht3).mono ?_); rintro e w3 ⟨a3, c3, rfl, hown3, hb3⟩)
        | go_must ((with_reducible refine (HC1.out _ hr2).mono ?_); rintro e w2 ⟨a2, c2, rfl, hown2, hb2⟩; have ht3 := ht2.belowN hb2)))
  have hB2 := hB1.trans (hb2.mono hB1.size)
  have hB3 := hB2.trans (hb3.mono hB2.size)
  have hz1 := hb1.size
  have hz2 := hb2.size
  have hz3 := hb3.size
  have hat := (hown1.belowN hb2).belowN hb3
  have hzb : w.heap.size ≤ w1.heap.size := hB1.size
  have hne2 : ∀ q1 q2, a2.map (·.block) = some q1 → a3.map (·.block) = some q2 → q1 < q2 := fun q1 q2 e1 e2 => by have h1 := (hown2.blk q1 e1).2; have h2 := (hown3.blk q2 e2).1; omega
  have hne1 : ∀ q1 q2, a1.map (·.block) = some q1 → (a2.map (·.block) = some q2 ∨ a3.map (·.block) = some q2) → q1 < q2 := fun q1 q2 e1 e2 => by
    have h1 := (hown1.blk q1 e1).2
    rcases e2 with e2 | e2
    · have h2 := (hown2.blk q2 e2).1; omega
    · have h2 := (hown3.blk q2 e2).1; omega
  have HNE1 := hide hne1
  have HNE2 := hide hne2
  clear hne1 hne2
  go_loopw [14] (fun iv wr => ∃ k : Nat, iv = .int .i64 k ∧ k ≤ U.length ∧ At wr a1 U ∧ Own wr w.heap.size 50 a2 c2 (runR (U.take k) r) ∧ Own wr w.heap.size 50 a3 c3 (tpR (U.take k) r t) ∧ Below w.heap.size w wr) (fun iv _ => U.length - (intOf iv).toNat)
  case atStart => exact ⟨0, rfl, by omega, hat.at_, (hown2.belowN hb3).mono (by omega), hown3.mono (by omega), hB3⟩
  case round =>
    obtain ⟨k, rfl, hk, hxU, hown, howT, hb⟩ := hrel
    have hzr := hb.size
    by_cases hlt : k < U.length
    · obtain ⟨b1, off1, x, rfl, hx, x0, x1, x2, x3, x4⟩ := hxU.getOp (Below.refl _ _) hlt
      obtain ⟨⟨d1, d2⟩, ⟨p1, p2⟩, ⟨i1, i2⟩⟩ := HIN.out x (List.mem_of_getElem? hx.out)
      have HSN := hide (runR_snoc U r hx.out)
      have HTN := hide (tpR_take U r t hx.out (by have := HNT.out; omega))
      have hlr : (runR (U.take k) r).length = nr := by rw [runR_length, HNR.out]
      have hlt2 : (tpR (U.take k) r t).length = nt := by rw [tpR_length _ _ _ (by have := HNT.out; simp; omega), HNT.out]
      have hnR := HN.out
      rw [← HNR.out] at hnR
      generalize hR : runR (U.take k) r = R at *
      generalize hTT : tpR (U.take k) r t = T at *
      rcases hown.form with ⟨_, _, e⟩ | ⟨gr, rfl, hg1, hg2⟩
      · subst e; simp at hlr; omega
      rcases howT.form with ⟨_, _, e⟩ | ⟨gt, rfl, hg3, hg4⟩
      · subst e; simp at hlt2; omega
      have hgg : gr < gt := HNE2.out gr gt rfl rfl
      have hg5 : b1 < gr := HNE1.out b1 gr rfl (.inl rfl)
      obtain ⟨va, hva⟩ : ∃ va, R[x.a.toNat]? = some va := ⟨R[x.a.toNat]'(by omega), List.getElem?_eq_getElem _⟩
      obtain ⟨vb, hvb⟩ : ∃ vb, R[x.b.toNat]? = some vb := ⟨R[x.b.toNat]'(by omega), List.getElem?_eq_getElem _⟩
      obtain ⟨vd, hvd⟩ : ∃ vd, R[x.d.toNat]? = some vd := ⟨R[x.d.toNat]'(by omega), List.getElem?_eq_getElem _⟩
      obtain ⟨vt, hvt⟩ : ∃ vt, T[k]? = some vt := ⟨T[k]'(by omega), List.getElem?_eq_getElem _⟩
      have hgd : getR R x.d = vd := by unfold getR; rw [hvd]; rfl
      rw [hgd] at HTN
      have rd0 : wr.cell? ⟨gr, x.d.toNat, none⟩ = some (.int .u64 (vd.toNat : Int)) := by simpa [Flat.n] using hown.cellAt hvd (f := 0) rfl
      have rt0 : wr.cell? ⟨gt, k, none⟩ = some (.int .u64 (vt.toNat : Int)) := by simpa [Flat.n] using howT.cellAt hvt (f := 0) rfl
      have tf0 := howT.frozen k
      have hT1 : Turned [gt] wr (wr.setCell ⟨gt, k, none⟩ (.int .u64 (vd.toNat : Int))) := Turned.ofGrown (F := [gt]) (grown_setCell _ _ _ _) (fun q hq => .inl (by injection hq with hq; simp [hq]))
      have howT1 := howT.set1 k vd _ rfl
      rw [← HTN.out] at howT1
      have hown1' := hown.turned hT1 (fun q hq => by simp at hq; simp; omega)
      have hxU1 := hxU.turned hT1 (fun _ q hq => by simp at hq; simp; omega)
      have hb1' : Below w.heap.size w (wr.setCell ⟨gt, k, none⟩ (.int .u64 (vd.toNat : Int))) := hb.setCell hg3 _
      go_wp2_with fail
      generalize wr.setCell ⟨gt, k, none⟩ (.int .u64 (vd.toNat : Int)) = W1 at *
      have hzr1 := hb1'.size
      clear x0 x1 x2 x3 x4 rd0 rt0 tf0 hT1
      obtain ⟨b2, off2, y, hac, hy, x0, x1, x2, x3, x4⟩ := hxU1.getOp (Below.refl _ _) hlt
      obtain rfl : x = y := by have := hx.out.symm.trans hy.out; simpa using this
      injection hac with hac
      injection hac with ea eb _
      subst ea eb
      have ra0 : W1.cell? ⟨gr, x.a.toNat, none⟩ = some (.int .u64 (va.toNat : Int)) := by simpa [Flat.n] using hown1'.cellAt hva (f := 0) rfl
      have rb0 : W1.cell? ⟨gr, x.b.toNat, none⟩ = some (.int .u64 (vb.toNat : Int)) := by simpa [Flat.n] using hown1'.cellAt hvb (f := 0) rfl
      have rd0 : W1.cell? ⟨gr, x.d.toNat, none⟩ = some (.int .u64 (vd.toNat : Int)) := by simpa [Flat.n] using hown1'.cellAt hvd (f := 0) rfl
      have rf0 := hown1'.frozen x.d.toNat
      have hbl := World.block_lt_of_cell? _ _ x0
      have hg2' : gr < W1.heap.size := World.block_lt_of_cell? _ _ rd0
      have HAP := hide (fun w => Apply7_calls x va vb w)
      have HVA := hide hva
      have HVB := hide hvb
      obtain ⟨S', hS'⟩ : ∃ S' : World → Prop, S' = fun w' => (w'.cell? ⟨b1, off1 + k * 5, none⟩ = some (.int .i64 x.kind) ∧ w'.cell? ⟨b1, off1 + k * 5 + 1, none⟩ = some (.int .i64 x.d) ∧ w'.cell? ⟨b1, off1 + k * 5 + 2, none⟩ = some (.int .i64 x.a) ∧ w'.cell? ⟨b1, off1 + k * 5 + 3, none⟩ = some (.int .i64 x.b) ∧ w'.cell? ⟨b1, off1 + k * 5 + 4, none⟩ = some (.int .u64 (x.v.toNat : Int))) ∧ w'.cell? ⟨gr, x.a.toNat, none⟩ = some (.int .u64 (va.toNat : Int)) ∧ w'.cell? ⟨gr, x.b.toNat, none⟩ = some (.int .u64 (vb.toNat : Int)) := ⟨_, rfl⟩
      have hSe : ∀ w', S' w' → (w'.cell? ⟨b1, off1 + k * 5, none⟩ = some (.int .i64 x.kind) ∧ w'.cell? ⟨b1, off1 + k * 5 + 1, none⟩ = some (.int .i64 x.d) ∧ w'.cell? ⟨b1, off1 + k * 5 + 2, none⟩ = some (.int .i64 x.a) ∧ w'.cell? ⟨b1, off1 + k * 5 + 3, none⟩ = some (.int .i64 x.b) ∧ w'.cell? ⟨b1, off1 + k * 5 + 4, none⟩ = some (.int .u64 (x.v.toNat : Int))) ∧ w'.cell? ⟨gr, x.a.toNat, none⟩ = some (.int .u64 (va.toNat : Int)) ∧ w'.cell? ⟨gr, x.b.toNat, none⟩ = some (.int .u64 (vb.toNat : Int)) := fun w' h => by rw [hS'] at h; exact h
      have HSE := hide hSe
      have HSI : Hid (S' W1.drew) := by show S' W1.drew; rw [hS']; exact ⟨⟨x0, x1, x2, x3, x4⟩, ra0, rb0⟩
      have HSI4 : Hid (∀ w4, Below W1.drew.heap.size W1.drew w4 → S' w4) := by
        show ∀ w4, _ → _
        intro w4 hb4
        obtain ⟨hc4, hf4⟩ := bcell hb4
        rw [hS']
        exact ⟨⟨(hc4 _ _ hbl).trans x0, (hc4 _ _ hbl).trans x1, (hc4 _ _ hbl).trans x2, (hc4 _ _ hbl).trans x3, (hc4 _ _ hbl).trans x4⟩, (hc4 _ _ hg2').trans ra0, (hc4 _ _ hg2').trans rb0⟩
      clear hSe hS' hR hTT
      refine wp_region_call 26 S' (by kernel_rfl) (by kernel_rfl) HSI.out ?_
      simp only [List.take_succ_cons, List.take_zero, List.drop_succ_cons, List.drop_zero]
      iterate 26
        apply headK_step (by rfl)
        · intro w' hw'
          obtain ⟨⟨s0, s1, s2, s3, s4⟩, s5, s6⟩ := HSE.out w' hw'
          go_simp
          rfl
        intro a' ha'
        simp only [Act.put, List.setIfInBounds_toArray, List.set_cons_succ, List.set_cons_zero] at ha'
        subst ha'
      refine headK_nil ?_
      intro o ho K0 hK0
      simp only [List.getElem?_cons_succ, List.getElem?_cons_zero, Option.some.injEq] at ho
      subst ho
      have HK0 := hide hK0
      clear hK0
      go_simp
      go_at_call 69
      refine (HAP.out _).mono ?_
      rintro e w4 ⟨rfl, hb4⟩
      refine HK0.out _ _ (HSI4.out w4 hb4) ?_
      obtain ⟨hc4, hf4⟩ := bcell hb4
      have qd := (hc4 _ _ hg2').trans rd0
      have qf := (hf4 _ x.d.toNat hg2').trans rf0
      clear hc4 hf4 HK0
      go_wp2
      refine NoPanic.normal ?_
      have hb4' : Below W1.heap.size W1 w4 := ⟨hb4.os, hb4.tape, hb4.output, hb4.size, hb4.block⟩
      have hown4 : Own w4 w.heap.size 50 (some ⟨gr, 0, none⟩) c2 R := hown1'.drew.belowN hb4
      have hown5 := hown4.set1 x.d.toNat (applyU x va vb) _ rfl
      have hstep : R.set x.d.toNat (applyU x va vb) = runR (U.take (k + 1)) r := by
        rw [HSN.out]
        unfold stepR getR
        rw [HVA.out, HVB.out]
        rfl
      rw [hstep] at hown5
      have hT5 : Turned [gr] W1 (w4.setCell ⟨gr, x.d.toNat, none⟩ (.int .u64 ((applyU x va vb).toNat : Int))) := (Turned.ofBelow (F := [gr]) hb4').trans (Turned.ofGrown (F := [gr]) (grown_setCell _ _ _ _) (fun q hq => .inl (by injection hq with hq; simp [hq]))) (fun q hq => .inl hq)
      have howT5 := howT1.turned hT5 (fun q hq => by simp at hq; simp; omega)
      have hxU5 := hxU1.turned hT5 (fun _ q hq => by simp at hq; simp; omega)
      have hb5 : Below w.heap.size w (w4.setCell ⟨gr, x.d.toNat, none⟩ (.int .u64 ((applyU x va vb).toNat : Int))) := (hb1'.trans (hb4'.mono hzr1)).setCell hg1 _
      go_wp2
      go_roundw
      case rel => exact ⟨k + 1, by go_num, by omega, hxU5, hown5, howT5, hb5⟩
      case measure => simp [intOf]; omega
    · obtain rfl : k = U.length := by omega
      rw [List.take_length] at hown howT
      go_wp2
      refine bodyPost_ret (v := .tuple #[.slice a2 nr c2, .slice a3 nt c3, .int .i64 (U.length : Int), .int .i64 0]) (by simp [results, Tryz.results47, go_sem]) rfl ?_
      rw [HPP.out]
      exact ⟨a2, c2, a3, c3, rfl, hown, howT, hb⟩
theorem Record21_calls (regs : Int) (a : Option Addr) (c : Nat) (l : List OpD) (ra : Option Addr) (rc : Nat) (r : List UInt64) (ta : Option Addr) (tc : Nat) (t : List UInt64) (w : World) (h : At w a l) (hl : l.length ≤ 1000000) (hr : At w ra r) (ht : At w ta t) (hrn : r.length ≤ 1000000) (htn : t.length ≤ 1000000) :
    Calls Tryz.prog 47 #[.agg #[.int .i64 regs, .slice a l.length c], .slice ra r.length rc, .slice ta t.length tc] w fun e w' => ∃ a1 c1 a2 c2, e = .returned (.tuple #[.slice a1 r.length c1, .slice a2 t.length c2, .int .i64 (recN regs l r.length t.length), .int .i64 (readyS regs l r.length t.length)]) ∧ Own w' w.heap.size 50 a1 c1 (recR regs l r t) ∧ Own w' w.heap.size 50 a2 c2 (recT regs l r t) ∧ Below w.heap.size w w' := by
  by_cases hc : readyS regs l r.length t.length = 0
  · rw [hc]
    obtain ⟨f, rfl, g, hn, hu⟩ := ready_good hc
    obtain ⟨e1, e2, e3, _⟩ := rec_good g hn hu
    rw [e1, e2, e3]
    exact Record21_good regs a c f g ra rc r ta tc t w h hr ht htn hn hu
  · obtain ⟨e1, e2, e3, _⟩ := rec_bad hc
    rw [e1, e2, e3]
    exact Record21_bad regs a c l ra rc r ta tc t w h hl hr ht hrn htn hc
end Go.Proofs.YtmmepffdjmpblaaGreat
