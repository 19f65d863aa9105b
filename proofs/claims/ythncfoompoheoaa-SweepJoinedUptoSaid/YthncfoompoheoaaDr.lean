/- Chapter 14: ref14.Run. -/
import Derived.Test.YthncfoompoheoaaDp
import Derived.Test.YthncfoompoheoaaRg2
namespace Go.Proofs.Ythncfoompoheoaa
set_option linter.unusedVariables false
set_option linter.unusedSimpArgs false
open Go.RowKit
def startD (n : Nat) (r : List DuD) : List DuD := r ++ List.replicate (n - r.length) ⟨0, 0⟩
theorem startD_length (n : Nat) (r : List DuD) (h : r.length ≤ n) : (startD n r).length = n := by simp [startD] <;> omega
def fillD (n : Nat) (r : List DuD) (k : Nat) : List DuD := r.take k ++ List.replicate (n - k) ⟨0, 0⟩
theorem fillD_set {n : Nat} {r : List DuD} {k : Nat} {x : DuD} (hx : r[k]? = some x) (hn : r.length ≤ n) : (fillD n r k).set k x = fillD n r (k + 1) ∧ (fillD n r k)[k]? = some ⟨0, 0⟩ := by
  have hk := (List.getElem?_eq_some_iff.1 hx).1
  have hl : (r.take k).length = k := by simp; omega
  obtain ⟨m, hm⟩ : ∃ m, n - k = m + 1 := ⟨n - k - 1, by omega⟩
  unfold fillD
  rw [hm, List.replicate_succ]
  constructor
  · rw [List.set_append_right _ _ (by omega), hl, Nat.sub_self, List.set_cons_zero, List.take_add_one, hx, show n - (k + 1) = m by omega]
    simp
  · rw [List.getElem?_append_right (by omega), hl, Nat.sub_self]; rfl
set_option maxRecDepth 100000 in
set_option maxHeartbeats 3200000 in
theorem Run14_good (nr : Nat) (a : Option Addr) (c : Nat) (f : Fo) (g : Good nr f) (ra : Option Addr) (rn rc : Nat) (r : List DuD) (hrn : rn = r.length) (w : World) (h : At w a f.flat) (hr : At w ra r) (h1 : rn ≤ nr) :
    Calls Try.prog 31 #[.agg #[.int .i64 (nr : Int), .slice a f.flat.length c], .slice ra rn rc] w fun e w' => ∃ a' c', e = .returned (.tuple #[.slice a' nr c', .int .i64 0]) ∧ Own w' w.heap.size 92 a' c' (runD f.unroll (startD nr r)) ∧ Below w.heap.size w w' := by
  have hb0 := below_new12 w (.cells #[.int .i64 (nr : Int), .slice a f.flat.length c] 24)
  have hX := Blk.new w 24 #[.int .i64 (nr : Int), .slice a f.flat.length c]
  have hl : f.flat.length ≤ 4096 := g.len
  have g1 := h.belowN hb0
  have r2 : nr ≤ 64 := by have := g.r2; omega
  have r1 : 1 ≤ nr := by have := g.r1; omega
  have HP := hide (Unroll12R nr a c f.flat _ f.unroll 0 (unrS_good g) g.check g1 (by omega))
  have hul : f.unroll.length ≤ 65536 := by rw [Fo.unroll_length]; exact g.few
  have HIN := hide (fun x hx => And.intro (g.inF x (f.unroll_mem g.ok x hx).1 (f.unroll_mem g.ok x hx).2.1 (f.unroll_mem g.ok x hx).2.2) (f.unroll_mem g.ok x hx).2)
  have HRN := hide hrn
  generalize f.unroll = U at *
  clear g hrn
  have hrn2 : (rn : Int) ≤ nr := by omega
  go_enter Try.func31, Try.ntmps31
  go_wp2_with (first
    | (go_at_call 83; go_must ((with_reducible refine (HP.out).mono ?_); rintro e w1 ⟨a1, c1, rfl, hown1, hC1⟩; have hz1 := hC1.size; obtain ⟨q0, q1, q2, q3⟩ := (hX.belowN hC1).c2))
    | (refine wpList_mkN tyND (B := w.heap.size + 1) rfl rfl rfl rfl rfl rfl (by simp at hz1 ⊢ <;> omega) (by omega) ?_; intro w2 hown2 hg2))
  have hB1 : w.heap.size + 1 ≤ w1.heap.size := by simp at hz1; omega
  have hC2 : Below _ _ w2 := hC1.grown hg2 hz1 (fun k hk => by cases hk)
  have hU2 := hown1.grown hg2 (by cases a1 with | none => exact .inl rfl | some q => exact .inr (by simp))
  have hr1 := hr.belowN hb0
  have hgz : w1.heap.size < w2.heap.size := (hown2.blk _ rfl).2
  have dU : ∀ q, a1.map (·.block) = some q → q < w1.heap.size := fun q e => (hown1.blk q e).2
  generalize w1.heap.size = gd at *
  have hz2 := hC2.size
  clear hg2 hown1 hC1 q0 q1 q2 q3
  have hst : fillD nr r 0 = List.replicate nr ⟨0, 0⟩ := by simp [fillD]
  rw [← hst] at hown2
  clear hst
  have HDU := hide dU
  clear dU
  go_loopw [9] (fun iv wr => ∃ k : Nat, iv = .int .i64 k ∧ k ≤ rn ∧ Own wr (w.heap.size + 1) 92 (some ⟨gd, 0, none⟩) nr (fillD nr r k) ∧ Turned [gd] w2 wr) (fun iv _ => rn - (intOf iv).toNat)
  case atStart => exact ⟨0, rfl, by omega, hown2, Turned.refl _ _⟩
  case round =>
    obtain ⟨k, rfl, hk, hown, hTu⟩ := hrel
    have hbW := below_turned hC2 hTu (fun b hb => by simp at hb; subst hb; simp; omega) hz2
    have hzW := hTu.size
    by_cases hlt : k < rn
    · obtain ⟨b1, off1, x, rfl, hx, c0, c1'⟩ := hr1.getDu hbW (show k < r.length by have := HRN.out; omega)
      obtain ⟨e1, e2⟩ := fillD_set (n := nr) hx.out (by rw [← HRN.out]; omega)
      have hs := hown.setD e2 x
      rw [e1] at hs
      have d0 := hown.cellAt e2 (f := 0) rfl
      have d1 := hown.cellAt e2 (f := 1) rfl
      have d2 := hown.frozen (k * 2)
      have d3 := hown.frozen (k * 2 + 1)
      simp only [Flat.n, Nat.add_zero] at d0 d1
      have hT2 : Turned [gd] wr ((wr.setCell ⟨gd, k * 2, none⟩ (.int .u64 (x.v.toNat : Int))).setCell ⟨gd, k * 2 + 1, none⟩ (.int .u64 (x.d.toNat : Int))) := (Turned.ofGrown (F := [gd]) (grown_setCell _ _ _ _) (fun q hq => .inl (by injection hq with hq; simp [hq]))).trans (Turned.ofGrown (F := [gd]) (grown_setCell _ _ _ _) (fun q hq => .inl (by injection hq with hq; simp [hq]))) (fun q hq => .inl hq)
      clear e1 e2
      go_wp2
      go_roundw
      case rel => exact ⟨k + 1, by go_num, by omega, hs, hTu.trans hT2 (fun q hq => .inl hq)⟩
      case measure => simp [intOf] <;> omega
    · have hkn : k = rn := by omega
      subst hkn
      rw [show fillD nr r k = startD nr r by unfold fillD startD; rw [HRN.out, List.take_length]] at hown
      have hRl0 : (startD nr r).length = nr := startD_length nr r (by rw [← HRN.out]; exact h1)
      obtain ⟨R0, hR0⟩ : ∃ R0, startD nr r = R0 := ⟨_, rfl⟩
      rw [hR0] at hown hRl0
      have HR0 := hide hR0
      clear hR0
      obtain ⟨wo, rfl⟩ : ∃ wo : World, wo = wr := ⟨_, rfl⟩
      have hU3 := hU2.turned hTu (fun q e hq => by simp at hq; have := HDU.out q e; omega)
      have HRL := hide hRl0
      clear hRl0 hlt hk hU2
      go_wp2_with fail
      go_loopw [10] (fun iv wr => ∃ j : Nat, iv = .int .i64 j ∧ j ≤ U.length ∧ Own wr (w.heap.size + 1) 92 (some ⟨gd, 0, none⟩) nr (runD (U.take j) R0) ∧ Turned [gd] wo wr) (fun iv _ => U.length - (intOf iv).toNat)
      case atStart => exact ⟨0, rfl, by omega, hown, Turned.refl _ _⟩
      case round =>
        obtain ⟨j, rfl, hj, hR, hTv⟩ := hrel
        have hzV := hTv.size
        by_cases hlt : j < U.length
        · have hU4 := hU3.turned hTv (fun q e hq => by simp at hq; have := HDU.out q e; omega)
          obtain ⟨b1', off1, x, rfl, hx, x0, x1, x2, x3, x4⟩ := hU4.at_.getOp (Below.refl _ _) hlt
          obtain ⟨⟨⟨d1, d2⟩, ⟨p1, p2⟩, ⟨i1, i2⟩⟩, k1, k2⟩ := HIN.out x (List.mem_of_getElem? hx.out)
          have HSN := hide (runD_snoc U R0 hx.out)
          have hRl : (runD (U.take j) R0).length = nr := by rw [runD_length, HRL.out]
          generalize runD (U.take j) R0 = R at *
          obtain ⟨pd, hpd⟩ : ∃ y, R[x.d.toNat]? = some y := ⟨R[x.d.toNat]'(by omega), List.getElem?_eq_getElem _⟩
          obtain ⟨pa, hpa⟩ : ∃ y, R[x.a.toNat]? = some y := ⟨R[x.a.toNat]'(by omega), List.getElem?_eq_getElem _⟩
          obtain ⟨pb, hpb⟩ : ∃ y, R[x.b.toNat]? = some y := ⟨R[x.b.toNat]'(by omega), List.getElem?_eq_getElem _⟩
          have HDO := hide (fun W => Does14_calls x pa pb W (by omega))
          obtain ⟨S, hS⟩ : ∃ S, doesD x pa pb = S := ⟨_, rfl⟩
          rw [hS] at HDO
          have HS2 := hide (show stepD R x = R.set x.d.toNat S by unfold stepD getD14; rw [hpa, hpb]; simp only [Option.getD_some]; rw [hS])
          have ca0 := hR.cellAt hpa (f := 0) rfl
          have ca1 := hR.cellAt hpa (f := 1) rfl
          have cb0 := hR.cellAt hpb (f := 0) rfl
          have cb1 := hR.cellAt hpb (f := 1) rfl
          have cd0 := hR.cellAt hpd (f := 0) rfl
          have cd1 := hR.cellAt hpd (f := 1) rfl
          have fd0 := hR.frozen (x.d.toNat * 2)
          have fd1 := hR.frozen (x.d.toNat * 2 + 1)
          simp only [Flat.n, Nat.add_zero] at ca0 ca1 cb0 cb1 cd0 cd1
          simp only [DuD.val] at HDO
          have HPD := hide hpd
          have hd0 : Below wr.heap.size wr wr.drew := Below.drew (Below.refl _ _)
          clear hS hpa hpb hpd
          go_wp2_with fail
          have hbx : b1' < wr.heap.size := (hU4.blk b1' rfl).2
          have hgx : gd < wr.heap.size := by omega
          obtain ⟨S', hS'⟩ : ∃ S' : World → Prop, S' = fun w' => (w'.cell? ⟨b1', off1 + j * 5, none⟩ = some (.int .i64 x.kind) ∧ w'.cell? ⟨b1', off1 + j * 5 + 1, none⟩ = some (.int .i64 x.d) ∧ w'.cell? ⟨b1', off1 + j * 5 + 2, none⟩ = some (.int .i64 x.a) ∧ w'.cell? ⟨b1', off1 + j * 5 + 3, none⟩ = some (.int .i64 x.b) ∧ w'.cell? ⟨b1', off1 + j * 5 + 4, none⟩ = some (.int .u64 (x.v.toNat : Int))) ∧ w'.cell? ⟨gd, x.a.toNat * 2, none⟩ = some (.int .u64 (pa.v.toNat : Int)) ∧ w'.cell? ⟨gd, x.a.toNat * 2 + 1, none⟩ = some (.int .u64 (pa.d.toNat : Int)) ∧ w'.cell? ⟨gd, x.b.toNat * 2, none⟩ = some (.int .u64 (pb.v.toNat : Int)) ∧ w'.cell? ⟨gd, x.b.toNat * 2 + 1, none⟩ = some (.int .u64 (pb.d.toNat : Int)) := ⟨_, rfl⟩
          have HSE : Hid (∀ w', S' w' → (w'.cell? ⟨b1', off1 + j * 5, none⟩ = some (.int .i64 x.kind) ∧ w'.cell? ⟨b1', off1 + j * 5 + 1, none⟩ = some (.int .i64 x.d) ∧ w'.cell? ⟨b1', off1 + j * 5 + 2, none⟩ = some (.int .i64 x.a) ∧ w'.cell? ⟨b1', off1 + j * 5 + 3, none⟩ = some (.int .i64 x.b) ∧ w'.cell? ⟨b1', off1 + j * 5 + 4, none⟩ = some (.int .u64 (x.v.toNat : Int))) ∧ w'.cell? ⟨gd, x.a.toNat * 2, none⟩ = some (.int .u64 (pa.v.toNat : Int)) ∧ w'.cell? ⟨gd, x.a.toNat * 2 + 1, none⟩ = some (.int .u64 (pa.d.toNat : Int)) ∧ w'.cell? ⟨gd, x.b.toNat * 2, none⟩ = some (.int .u64 (pb.v.toNat : Int)) ∧ w'.cell? ⟨gd, x.b.toNat * 2 + 1, none⟩ = some (.int .u64 (pb.d.toNat : Int))) := hide fun w' h => by rw [hS'] at h; exact h
          have HSI : Hid (S' wr.drew) := by show S' wr.drew; rw [hS']; exact ⟨⟨x0, x1, x2, x3, x4⟩, ca0, ca1, cb0, cb1⟩
          have HSI4 : Hid (∀ w4, Below wr.heap.size wr w4 → S' w4) := by
            show ∀ w4, _ → _
            intro w4 hb4
            obtain ⟨y0, _⟩ := bcell hb4
            rw [hS']
            exact ⟨⟨(y0 _ _ hbx).trans x0, (y0 _ _ hbx).trans x1, (y0 _ _ hbx).trans x2, (y0 _ _ hbx).trans x3, (y0 _ _ hbx).trans x4⟩, (y0 _ _ hgx).trans ca0, (y0 _ _ hgx).trans ca1, (y0 _ _ hgx).trans cb0, (y0 _ _ hgx).trans cb1⟩
          clear hS'
          refine wp_region_calls 26 27 S' (by kernel_rfl) (by kernel_rfl) HSI.out ?_
          simp only [List.take_succ_cons, List.take_zero, List.drop_succ_cons, List.drop_zero, Nat.reduceSub]
          iterate 26
            apply headK_step (by rfl)
            · intro w' hw'
              obtain ⟨⟨s0, s1, s2, s3, s4⟩, s5, s6, s7, s8⟩ := HSE.out w' hw'
              go_simp
              rfl
            intro a' ha'
            simp only [Act.put, List.setIfInBounds_toArray, List.set_cons_succ, List.set_cons_zero] at ha'
            subst ha'
          refine headK_nil ?_
          rw [midK]
          intro K0 hK0
          have HK0 := hide hK0
          clear hK0
          go_simp
          go_at_call 84
          refine (HDO.out _).mono ?_
          rintro e w4 ⟨rfl, hb4⟩
          have hB4 := hd0.trans (hb4.mono hd0.size)
          refine HK0.out _ _ (HSI4.out w4 hB4) ?_
          clear HK0
          rw [midK]
          obtain ⟨y0, y1⟩ := bcell hB4
          have t0 := (y0 gd _ hgx).trans cd0
          have t1 := (y0 gd _ hgx).trans cd1
          have t2 := (y1 gd (x.d.toNat * 2) hgx).trans fd0
          have t3 := (y1 gd (x.d.toNat * 2 + 1) hgx).trans fd1
          have hR4 := (hR.belowN hB4).setD HPD.out S
          rw [← HS2.out, ← HSN.out] at hR4
          have hT4 : Turned [gd] wr ((w4.setCell ⟨gd, x.d.toNat * 2, none⟩ (.int .u64 (S.v.toNat : Int))).setCell ⟨gd, x.d.toNat * 2 + 1, none⟩ (.int .u64 (S.d.toNat : Int))) := ((Turned.ofBelow (F := [gd]) hB4).trans (Turned.ofGrown (F := [gd]) (grown_setCell _ _ _ _) (fun q hq => .inl (by injection hq with hq; simp [hq]))) (fun q hq => .inl hq)).trans (Turned.ofGrown (F := [gd]) (grown_setCell _ _ _ _) (fun q hq => .inl (by injection hq with hq; simp [hq]))) (fun q hq => .inl hq)
          clear y0 y1 HSI HSI4 HSE
          go_wp2
          refine NoPanic.normal ?_
          go_wp2
          go_roundw
          case rel => exact ⟨j + 1, by go_num, by omega, hR4, hTv.trans hT4 (fun q hq => .inl hq)⟩
          case measure => simp [intOf] <;> omega
        · have hjn : j = U.length := by omega
          subst hjn
          rw [List.take_length] at hR
          go_wp2
          go_ret2
          refine ⟨some ⟨gd, 0, none⟩, nr, rfl, by rw [HR0.out]; exact hR.mono (show w.heap.size ≤ w.heap.size + 1 by omega), hb0.trans ((below_turned (below_turned hC2 hTu (fun b hb => by simp at hb; subst hb; simp; omega) hz2) hTv (fun b hb => by simp at hb; subst hb; simp; omega) (by omega)).mono (by simp))⟩
/-- may duals be handed in? -/
def dualE (regs : Int) (l : List OpD) (rn : Nat) : Int := if checkS regs l ≠ 0 then checkS regs l else if regs < (rn : Int) then 10 else 0
noncomputable def dualR (regs : Int) (l : List OpD) (r : List DuD) : List DuD := if dualE regs l r.length = 0 then runD (unrS regs l) (startD regs.toNat r) else []
theorem dualE_good {regs : Int} {l : List OpD} {rn : Nat} (h : dualE regs l rn = 0) : ∃ f : Fo, l = f.flat ∧ Good regs f ∧ (rn : Int) ≤ regs := by
  unfold dualE at h
  by_cases hc : checkS regs l = 0
  · rw [if_neg (by simpa using hc)] at h
    obtain ⟨f, rfl, g⟩ := good_of_check hc
    by_cases hn : regs < (rn : Int)
    · rw [if_pos hn] at h; cases h
    · exact ⟨f, rfl, g, by omega⟩
  · rw [if_pos hc] at h; exact absurd h hc
theorem dualE_of {regs : Int} {f : Fo} (g : Good regs f) {rn : Nat} (hn : (rn : Int) ≤ regs) : dualE regs f.flat rn = 0 := by
  unfold dualE
  rw [if_neg (by simpa using g.check), if_neg (by omega)]
theorem dualE_dims {regs : Int} {f : Fo} (g : Good regs f) {rn : Nat} (h : regs < (rn : Int)) : dualE regs f.flat rn = 10 := by
  unfold dualE
  rw [if_neg (by simpa using g.check), if_pos h]
theorem dualE_bad {regs : Int} {l : List OpD} {rn : Nat} (hc : checkS regs l ≠ 0) : dualE regs l rn = checkS regs l := by unfold dualE; rw [if_pos hc]
theorem dualR_good {regs : Int} {f : Fo} (g : Good regs f) {r : List DuD} (hn : (r.length : Int) ≤ regs) : dualR regs f.flat r = runD f.unroll (startD regs.toNat r) := by
  unfold dualR
  rw [if_pos (dualE_of g hn), unrS_good g]
theorem dualR_bad {regs : Int} {l : List OpD} {r : List DuD} (h : dualE regs l r.length ≠ 0) : dualR regs l r = [] := by unfold dualR; rw [if_neg h]
set_option maxRecDepth 100000 in
set_option maxHeartbeats 800000 in
theorem Run14_dims (nr : Nat) (a : Option Addr) (c : Nat) (f : Fo) (g : Good nr f) (ra : Option Addr) (rn rc : Nat) (w : World) (h : At w a f.flat) (hm : (nr : Int) < (rn : Int)) :
    Calls Try.prog 31 #[.agg #[.int .i64 (nr : Int), .slice a f.flat.length c], .slice ra rn rc] w fun e w' => e = .returned (.tuple #[.slice none 0 0, .int .i64 10]) ∧ Below w.heap.size w w' := by
  have hb0 := below_new12 w (.cells #[.int .i64 (nr : Int), .slice a f.flat.length c] 24)
  have hX := Blk.new w 24 #[.int .i64 (nr : Int), .slice a f.flat.length c]
  have hl : f.flat.length ≤ 4096 := g.len
  have g1 := h.belowN hb0
  have r2 : nr ≤ 64 := by have := g.r2; omega
  have HP := hide (Unroll12R nr a c f.flat _ f.unroll 0 (unrS_good g) g.check g1 (by omega))
  have hul : f.unroll.length ≤ 65536 := by rw [Fo.unroll_length]; exact g.few
  generalize f.unroll = U at *
  clear g
  go_enter Try.func31, Try.ntmps31
  go_wp2_with (go_at_call 83; go_must ((with_reducible refine (HP.out).mono ?_); rintro e w2 ⟨a2, c2, rfl, hown2, hC2⟩; obtain ⟨q0, q1, q2, q3⟩ := (hX.belowN hC2).c2))
  all_goals
    go_ret2
    exact ⟨rfl, hb0.trans (hC2.mono hb0.size)⟩
set_option maxRecDepth 100000 in
set_option maxHeartbeats 800000 in
theorem Run14_bad (regs : Int) (a : Option Addr) (c : Nat) (l : List OpD) (ra : Option Addr) (rn rc : Nat) (w : World) (h : At w a l) (hl : l.length ≤ 1000000) (hc : checkS regs l ≠ 0) :
    Calls Try.prog 31 #[.agg #[.int .i64 regs, .slice a l.length c], .slice ra rn rc] w fun e w' => e = .returned (.tuple #[.slice none 0 0, .int .i64 (checkS regs l)]) ∧ Below w.heap.size w w' := by
  have hb0 := below_new12 w (.cells #[.int .i64 regs, .slice a l.length c] 24)
  have hX := Blk.new w 24 #[.int .i64 regs, .slice a l.length c]
  have g1 := h.belowN hb0
  obtain ⟨E, hE⟩ : ∃ E, checkS regs l = E := ⟨_, rfl⟩
  have HP := hide (Unroll12R regs a c l _ _ E rfl hE g1 hl)
  rw [hE] at hc ⊢
  have e1 : (E == 0) = false := by simpa using hc
  have e2 : (E != 0) = true := by simpa using hc
  clear hE hc
  go_enter Try.func31, Try.ntmps31
  go_wp2_with (go_at_call 83; go_must ((with_reducible refine (HP.out).mono ?_); rintro e w2 ⟨a2, c2, rfl, hown2, hC2⟩; obtain ⟨q0, q1, q2, q3⟩ := (hX.belowN hC2).c2))
  go_ret2
  exact ⟨rfl, hb0.trans (hC2.mono hb0.size)⟩
theorem Run14_calls (regs : Int) (a : Option Addr) (c ln : Nat) (l : List OpD) (hln : ln = l.length) (ra : Option Addr) (rn rc : Nat) (r : List DuD) (hrn : rn = r.length) (A : List DuD) (E : Int) (hA : dualR regs l r = A) (hE : dualE regs l rn = E) (w : World) (h : At w a l) (hl : ln ≤ 1000000) (hr : At w ra r) :
    Calls Try.prog 31 #[.agg #[.int .i64 regs, .slice a ln c], .slice ra rn rc] w fun e w' => ∃ a' c', e = .returned (.tuple #[.slice a' A.length c', .int .i64 E]) ∧ Own w' w.heap.size 92 a' c' A ∧ Below w.heap.size w w' := by
  subst hln hA hE
  by_cases hc : dualE regs l rn = 0
  · rw [hc]
    obtain ⟨f, rfl, g, hn⟩ := dualE_good hc
    obtain ⟨nr, rfl⟩ : ∃ nr : Nat, regs = nr := ⟨regs.toNat, by have := g.r1; omega⟩
    rw [dualR_good g (by omega)]
    refine (Run14_good nr a c f g ra rn rc r hrn w h hr (by omega)).mono ?_
    rintro e w' ⟨a', c', rfl, o, hb⟩
    refine ⟨a', c', ?_, o, hb⟩
    rw [Int.toNat_natCast, runD_length, startD_length _ _ (by omega)]
  · rw [dualR_bad (by rw [← hrn]; exact hc)]
    have key : Calls Try.prog 31 #[.agg #[.int .i64 regs, .slice a l.length c], .slice ra rn rc] w fun e w' => e = .returned (.tuple #[.slice none 0 0, .int .i64 (dualE regs l rn)]) ∧ Below w.heap.size w w' := by
      by_cases h0 : checkS regs l = 0
      · obtain ⟨f, rfl, g⟩ := good_of_check h0
        obtain ⟨nr, rfl⟩ : ∃ nr : Nat, regs = nr := ⟨regs.toNat, by have := g.r1; omega⟩
        have hd : (nr : Int) < (rn : Int) := Classical.byContradiction fun hd => hc (dualE_of g (by omega))
        rw [dualE_dims g hd]
        exact Run14_dims nr a c f g ra rn rc w h hd
      · rw [dualE_bad h0]
        exact Run14_bad regs a c l ra rn rc w h hl h0
    refine key.mono ?_
    rintro e w' ⟨rfl, hb⟩
    exact ⟨none, 0, rfl, Own.none _ _ _, hb⟩
end Go.Proofs.Ythncfoompoheoaa
