/- Several texts of mine in one file: R13, R13b. -/
import Derived.Test.YtibecjbbnpjgfaaQb
import Derived.Test.YtibecjbbnpjgfaaQc
import Derived.Test.YtibecjbbnpjgfaaQa
import Derived.Test.YtibecjbbnpjgfaaQj
import Derived.Test.YtibecjbbnpjgfaaQk
/- Chapter 13, the document's answers: Start, Straight. -/
namespace Go.Proofs.Ytibecjbbnpjgfaa
set_option linter.unusedVariables false
set_option linter.unusedSimpArgs false
open Go.RowKit

def startS (n : Nat) (r : List UInt64) : List UInt64 := (List.range n).map fun i => (r[i]?).getD 0
theorem startS_snoc (n : Nat) (r : List UInt64) : startS (n + 1) r = startS n r ++ [(r[n]?).getD 0] := by unfold startS; rw [List.range_succ, List.map_append]; rfl
theorem startS_length (n : Nat) (r : List UInt64) : (startS n r).length = n := by simp [startS]
theorem startS_eq {n : Nat} {r : List UInt64} (h : r.length ≤ n) : startS n r = startR n r := by
  apply List.ext_getElem?
  intro i
  unfold startS startR
  rw [List.getElem?_map, List.getElem?_append, List.getElem?_replicate]
  by_cases hi : i < n
  · rw [List.getElem?_range hi]
    show some ((r[i]?).getD 0) = _
    by_cases hr : i < r.length
    · rw [if_pos hr, List.getElem?_eq_getElem hr]; rfl
    · rw [if_neg hr, if_pos (by omega), List.getElem?_eq_none (by omega)]; rfl
  · rw [List.getElem?_eq_none (by simp; omega), if_neg (by omega), if_neg (by omega)]; rfl
theorem startS_self (r : List UInt64) : startS r.length r = r := by rw [startS_eq (Nat.le_refl _)]; simp [startR]

set_option maxHeartbeats 800000 in
theorem Start13_calls (n : Nat) (N : Int) (hN : N = (n : Int)) (ra : Option Addr) (rc : Nat) (r : List UInt64) (w : World) (hn : n ≤ 1000000) (hr : At w ra r) (hrl : r.length ≤ 1000000000) :
    Calls Try.prog 68 #[.int .i64 N, .slice ra r.length rc] w fun e w' => ∃ a' c', e = .returned (.slice a' n c') ∧ Own w' w.heap.size 44 a' c' (startS n r) ∧ Below w.heap.size w w' := by
  subst hN
  go_enter Try.func68, Try.ntmps68
  go_wp2
  go_loopw [5, 6] (fun ov iv wr => ∃ (k : Nat) (ao : Option Addr) (co : Nat), iv = .int .i64 k ∧ k ≤ n ∧ ov = .slice ao k co ∧ Own wr w.heap.size 44 ao co (startS k r) ∧ Below w.heap.size w wr) (fun _ iv _ => n - (intOf iv).toNat)
  case atStart => exact ⟨0, _, 0, rfl, by omega, rfl, Own.new w (Nat.le_refl _) _ UInt64, Below.alloc (Below.refl _ _) (Nat.le_refl _) _⟩
  case round =>
    obtain ⟨k, ao, co, rfl, hk, rfl, hown, hb⟩ := hrel
    have hzr := hb.size
    have hkl := startS_length k r
    by_cases hlt : k < n
    · by_cases hkr : k < r.length
      · obtain ⟨b1, off1, x, rfl, hx, c0⟩ := hr.getU hb hkr
        have HX := hide (show startS k r ++ [x] = startS (k + 1) r by rw [startS_snoc, hx.out]; rfl)
        have HKL := hide hkl.symm
        clear hkl
        go_wp2_with (at_builtin; refine wpList_push tyU hown x rfl rfl rfl rfl rfl rfl HKL.out hzr (by omega) ?_; intro a4 c4 w4 hown4 hg4 _)
        go_roundw
        case rel => exact ⟨k + 1, a4, c4, by go_num, by omega, rfl, by rw [← HX.out]; exact hown4, below_push hb hown hg4 hzr⟩
        case measure => simp [intOf]; omega
      · have HX := hide (show startS k r ++ [0] = startS (k + 1) r by rw [startS_snoc, List.getElem?_eq_none (by omega)]; rfl)
        have HKL := hide hkl.symm
        clear hkl
        go_wp2_with (at_builtin; refine wpList_push tyU hown 0 rfl rfl rfl rfl rfl rfl HKL.out hzr (by omega) ?_; intro a4 c4 w4 hown4 hg4 _)
        go_roundw
        case rel => exact ⟨k + 1, a4, c4, by go_num, by omega, rfl, by rw [← HX.out]; exact hown4, below_push hb hown hg4 hzr⟩
        case measure => simp [intOf]; omega
    · obtain rfl : k = n := by omega
      clear hkl
      go_wp2
      go_ret
      exact ⟨ao, co, rfl, hown, hb⟩

theorem runR_snoc (l : List OpD) (r : List UInt64) {k : Nat} {x : OpD} (h : l[k]? = some x) : runR (l.take (k + 1)) r = stepR (runR (l.take k) r) x := by
  rw [List.take_add_one, h]
  show runR (l.take k ++ [x]) r = _
  rw [runR_append]
  rfl
set_option maxRecDepth 100000 in
set_option maxHeartbeats 3200000 in
theorem Straight_calls (la : Option Addr) (lc : Nat) (l : List OpD) (ra : Option Addr) (rc : Nat) (r : List UInt64) (w : World) (h : At w la l) (hl : l.length ≤ 1000000) (hr : At w ra r) (hrl : r.length ≤ 1000000) (hin : ∀ x ∈ l, InR r.length x) :
    Calls Try.prog 108 #[.slice la l.length lc, .slice ra r.length rc] w fun e w' => ∃ a' c', e = .returned (.slice a' r.length c') ∧ Own w' w.heap.size 44 a' c' (runR l r) ∧ Below w.heap.size w w' := by
  have HS := hide (Start13_calls r.length r.length rfl ra rc r w hrl hr (by omega))
  rw [startS_self] at HS
  have HIN := hide hin
  obtain ⟨nr, hnr⟩ : ∃ nr, nr = r.length := ⟨_, rfl⟩
  rw [← hnr] at HS HIN hrl ⊢
  have HNR := hide hnr
  clear hin hnr
  go_enter Try.func108, Try.ntmps108
  go_wp2_with (go_at_call 68; ((with_reducible refine (HS.out).mono ?_); rintro e w1 ⟨a1, c1, rfl, hown1, hb1⟩))
  go_loopw [6] (fun iv wr => ∃ k : Nat, iv = .int .i64 k ∧ k ≤ l.length ∧ Own wr w.heap.size 44 a1 c1 (runR (l.take k) r) ∧ Below w.heap.size w wr) (fun iv _ => l.length - (intOf iv).toNat)
  case atStart => exact ⟨0, rfl, by omega, hown1, hb1⟩
  case round =>
    obtain ⟨k, rfl, hk, hown, hb⟩ := hrel
    have hzr := hb.size
    by_cases hlt : k < l.length
    · obtain ⟨b1, off1, x, rfl, hx, x0, x1, x2, x3, x4⟩ := h.getOp hb hlt
      obtain ⟨⟨d1, d2⟩, ⟨p1, p2⟩, ⟨i1, i2⟩⟩ := HIN.out x (List.mem_of_getElem? hx.out)
      have HSN := hide (runR_snoc l r hx.out)
      have hlr : (runR (l.take k) r).length = nr := by rw [runR_length, HNR.out]
      generalize hR : runR (l.take k) r = R at *
      have HR := hide hR
      rcases hown.form with ⟨_, _, e⟩ | ⟨gr, rfl, hg1, hg2⟩
      · subst e; simp at hlr; omega
      obtain ⟨va, hva⟩ : ∃ va, R[x.a.toNat]? = some va := ⟨R[x.a.toNat]'(by omega), List.getElem?_eq_getElem _⟩
      obtain ⟨vb, hvb⟩ : ∃ vb, R[x.b.toNat]? = some vb := ⟨R[x.b.toNat]'(by omega), List.getElem?_eq_getElem _⟩
      obtain ⟨vd, hvd⟩ : ∃ vd, R[x.d.toNat]? = some vd := ⟨R[x.d.toNat]'(by omega), List.getElem?_eq_getElem _⟩
      have ra0 : wr.cell? ⟨gr, x.a.toNat, none⟩ = some (.int .u64 (va.toNat : Int)) := by simpa [Flat.n] using hown.cellAt hva (f := 0) rfl
      have rb0 : wr.cell? ⟨gr, x.b.toNat, none⟩ = some (.int .u64 (vb.toNat : Int)) := by simpa [Flat.n] using hown.cellAt hvb (f := 0) rfl
      have rd0 : wr.cell? ⟨gr, x.d.toNat, none⟩ = some (.int .u64 (vd.toNat : Int)) := by simpa [Flat.n] using hown.cellAt hvd (f := 0) rfl
      have rf0 := hown.frozen x.d.toNat
      have hbl := World.block_lt_of_cell? _ _ x0
      have HAP := hide (fun w => Apply7_calls x va vb w)
      have HVA := hide hva
      have HVB := hide hvb
      obtain ⟨S', hS'⟩ : ∃ S' : World → Prop, S' = fun w' => (w'.cell? ⟨b1, off1 + k * 5, none⟩ = some (.int .i64 x.kind) ∧ w'.cell? ⟨b1, off1 + k * 5 + 1, none⟩ = some (.int .i64 x.d) ∧ w'.cell? ⟨b1, off1 + k * 5 + 2, none⟩ = some (.int .i64 x.a) ∧ w'.cell? ⟨b1, off1 + k * 5 + 3, none⟩ = some (.int .i64 x.b) ∧ w'.cell? ⟨b1, off1 + k * 5 + 4, none⟩ = some (.int .u64 (x.v.toNat : Int))) ∧ w'.cell? ⟨gr, x.a.toNat, none⟩ = some (.int .u64 (va.toNat : Int)) ∧ w'.cell? ⟨gr, x.b.toNat, none⟩ = some (.int .u64 (vb.toNat : Int)) := ⟨_, rfl⟩
      have hSe : ∀ w', S' w' → (w'.cell? ⟨b1, off1 + k * 5, none⟩ = some (.int .i64 x.kind) ∧ w'.cell? ⟨b1, off1 + k * 5 + 1, none⟩ = some (.int .i64 x.d) ∧ w'.cell? ⟨b1, off1 + k * 5 + 2, none⟩ = some (.int .i64 x.a) ∧ w'.cell? ⟨b1, off1 + k * 5 + 3, none⟩ = some (.int .i64 x.b) ∧ w'.cell? ⟨b1, off1 + k * 5 + 4, none⟩ = some (.int .u64 (x.v.toNat : Int))) ∧ w'.cell? ⟨gr, x.a.toNat, none⟩ = some (.int .u64 (va.toNat : Int)) ∧ w'.cell? ⟨gr, x.b.toNat, none⟩ = some (.int .u64 (vb.toNat : Int)) := fun w' h => by rw [hS'] at h; exact h
      have HSE := hide hSe
      have HSI : Hid (S' wr.drew) := by show S' wr.drew; rw [hS']; exact ⟨⟨x0, x1, x2, x3, x4⟩, ra0, rb0⟩
      have HSI4 : Hid (∀ w4, Below wr.drew.heap.size wr.drew w4 → S' w4) := by
        show ∀ w4, _ → _
        intro w4 hb4
        obtain ⟨hc4, hf4⟩ := bcell hb4
        rw [hS']
        exact ⟨⟨(hc4 _ _ hbl).trans x0, (hc4 _ _ hbl).trans x1, (hc4 _ _ hbl).trans x2, (hc4 _ _ hbl).trans x3, (hc4 _ _ hbl).trans x4⟩, (hc4 _ _ hg2).trans ra0, (hc4 _ _ hg2).trans rb0⟩
      clear hSe hS' hR
      go_wp2_with fail
      refine wp_region_call 26 S' (by kernel_rfl) (by kernel_rfl) HSI.out ?_
      simp only [List.take_succ_cons, List.take_zero, List.drop_succ_cons, List.drop_zero]
      iterate 26
        apply headK_step (by rfl)
        · intro w' hw'
          obtain ⟨⟨s0, s1, s2, s3, s4⟩, s5, s6⟩ := HSE.out w' hw'
          go_simp
          rfl
        intro a' ha'
        simp only [Act.put, List.setIfInBounds_toArray, List.set_cons_succ, List.set_cons_zero] at ha'
        subst ha'
      refine headK_nil ?_
      intro o ho K0 hK0
      simp only [List.getElem?_cons_succ, List.getElem?_cons_zero, Option.some.injEq] at ho
      subst ho
      have HK0 := hide hK0
      clear hK0
      go_simp
      go_at_call 100
      refine (HAP.out _).mono ?_
      rintro e w4 ⟨rfl, hb4⟩
      refine HK0.out _ _ (HSI4.out w4 hb4) ?_
      obtain ⟨hc4, hf4⟩ := bcell hb4
      have qd := (hc4 _ _ hg2).trans rd0
      have qf := (hf4 _ x.d.toNat hg2).trans rf0
      clear hc4 hf4 HK0
      go_wp2
      refine NoPanic.normal ?_
      have hb4' : Below wr.heap.size wr w4 := ⟨hb4.os, hb4.tape, hb4.output, hb4.size, hb4.block⟩
      have hown4 : Own w4 w.heap.size 44 (some ⟨gr, 0, none⟩) c1 R := hown.drew.belowN hb4
      have hown5 := hown4.set1 x.d.toNat (applyU x va vb) _ rfl
      have hstep : R.set x.d.toNat (applyU x va vb) = runR (l.take (k + 1)) r := by
        rw [HSN.out]
        unfold stepR getR
        rw [HVA.out, HVB.out]
        rfl
      rw [hstep] at hown5
      have hb5 : Below w.heap.size w (w4.setCell ⟨gr, x.d.toNat, none⟩ (.int .u64 ((applyU x va vb).toNat : Int))) := (hb.trans (hb4'.mono hzr)).setCell hg1 _
      go_wp2
      go_roundw
      case rel => exact ⟨k + 1, by go_num, by omega, hown5, hb5⟩
      case measure => simp [intOf]; omega
    · obtain rfl : k = l.length := by omega
      rw [List.take_length] at hown
      go_wp2
      go_ret
      exact ⟨a1, c1, rfl, hown, hb⟩
end Go.Proofs.Ytibecjbbnpjgfaa

/- Chapter 13, the document's answers: Upto, Run, Last. -/
namespace Go.Proofs.Ytibecjbbnpjgfaa
set_option linter.unusedVariables false
set_option linter.unusedSimpArgs false
open Go.RowKit

theorem Straight13N (la : Option Addr) (lc : Nat) (l : List OpD) (ln : Nat) (hln : ln = l.length) (ra : Option Addr) (rc : Nat) (r : List UInt64) (nr : Nat) (hnr : r.length = nr) (w : World) (h : At w la l) (hl : l.length ≤ 1000000) (hr : At w ra r) (hrl : nr ≤ 1000000) (hin : ∀ x ∈ l, InR nr x) :
    Calls Try.prog 108 #[.slice la ln lc, .slice ra nr rc] w fun e w' => ∃ a' c', e = .returned (.slice a' nr c') ∧ Own w' w.heap.size 44 a' c' (runR l r) ∧ Below w.heap.size w w' := by
  subst hln hnr
  exact Straight_calls la lc l ra rc r w h hl hr hrl hin
set_option maxRecDepth 100000 in
set_option maxHeartbeats 3200000 in
theorem Upto13_calls (regs : Int) (a : Option Addr) (c : Nat) (l : List OpD) (ra : Option Addr) (rc : Nat) (r : List UInt64) (n : Int) (w : World) (h : At w a l) (hl : l.length ≤ 1000000) (hr : At w ra r) (hrl : r.length ≤ 1000000) :
    Calls Try.prog 90 #[.agg #[.int .i64 regs, .slice a l.length c], .slice ra r.length rc, .int .i64 n] w (RunPost regs l r n w) := by
  have hb0 := below_new12 w (.cells #[.int .i64 regs, .slice a l.length c] 24)
  have h1 := h.belowN hb0
  have hr1 := hr.belowN hb0
  have hbx := Blk.new w 24 #[.int .i64 regs, .slice a l.length c]
  have HP := hide (Unroll12_calls regs a c l _ h1 hl)
  unfold UnrPost at HP
  by_cases hc : dimsS regs l r.length = 0
  · obtain ⟨f, rfl, g, hn⟩ := dims_good hc
    have HU := hide (uptoS_good g hn n)
    have HC := hide hc
    have HIN := hide g.inR
    rw [unrS_good g, g.check] at HP
    have hul := g.unroll_le
    have hr1' := g.r1
    have hr2' := g.r2
    obtain ⟨nr, rfl⟩ : ∃ nr : Nat, regs = nr := ⟨regs.toNat, by omega⟩
    have hrn : r.length ≤ nr := by omega
    have hnn : ¬ nr < r.length := by omega
    have HSL := hide (startR_length nr r hrn)
    have HSE0 := hide (startS_eq hrn)
    generalize f.unroll = U at *
    clear g hc
    have hcases : (n < 0 ∨ (U.length : Int) < n) ∨ ∃ N : Nat, n = N ∧ N ≤ U.length := by
      rcases Int.lt_or_le n 0 with h | h
      · exact .inl (.inl h)
      · by_cases h2 : (U.length : Int) < n
        · exact .inl (.inr h2)
        · exact .inr ⟨n.toNat, by omega, by omega⟩
    rcases hcases with (h | h) | ⟨N, rfl, h⟩
    ·
      obtain ⟨lU, hlU⟩ : ∃ lU, lU = U.length := ⟨_, rfl⟩
      have HUP := hide (show uptoL U n = U.take lU by unfold uptoL; rw [if_pos h, hlU, List.take_length])
      rw [← hlU] at HP hul
      try rw [← hlU] at h
      have HLU := hide hlU
      have hq : U.length = U.length := rfl
      clear hlU
      go_enter Try.func90, Try.ntmps90
      go_wp2_with (first
        | (go_at_call 63; go_must ((with_reducible refine (HP.out).mono ?_); rintro e w1 ⟨a1, c1, rfl, hown1, hb1⟩; have hbx1 := hbx.belowN hb1; obtain ⟨p0, p1, p2, p3⟩ := hbx1.c2; have HCAP := hide hown1.cap)))
      have hcap := HCAP.out.1
      rw [← HLU.out] at hcap
      have hNc : lU ≤ c1 := by omega
      have HTL := hide (show lU = (U.take lU).length by have := HLU.out; simp; omega)
      have HINT := hide (show ∀ x ∈ U.take lU, InR nr x from fun x hx => HIN.out x (List.mem_of_mem_take hx))
      have hat0 := hown1.at_.take lU
      have hat1 : At w1.drew a1 (U.take lU) := hat0
      have hrw0 := hr1.belowN hb1
      have hrw : At w1.drew ra r := hrw0
      have hbxd : Blk w1.drew w.heap.size 24 #[.int .i64 nr, .slice a f.flat.length c] := hbx1
      have hzz := hb1.size
      simp only [World.size_alloc] at hzz
      go_region_held3 (fun w' => w'.cell? ⟨w.heap.size, 0, none⟩ = some (.int .i64 (nr : Int))) (go_keep)
        (first
          | (go_at_call 68; go_must ((with_reducible refine (Start13_calls nr nr rfl ra rc r w1.drew (by omega) hrw (by omega)).mono ?_); rintro e w3 ⟨a3, c3, rfl, hown3, hb3⟩; obtain ⟨k0, k1, k2, k3⟩ := (hbxd.belowN hb3).c2))
          | (go_at_call 108; (with_reducible refine (Straight13N a1 c1 (U.take lU) _ HTL.out a3 c3 (startS nr r) nr (startS_length nr r) w3 (hat1.belowN hb3) (by simp; omega) hown3.at_ (by omega) HINT.out).mono ?_); rintro e w4 ⟨a4, c4, rfl, hown4, hb4⟩; obtain ⟨j0, j1, j2, j3⟩ := ((hbxd.belowN hb3).belowN hb4).c2))
      go_wp2
      go_ret2
      have hB3 : Below w.heap.size w w3 := (hb0.trans (hb1.mono hb0.size)).trans ((show Below w1.heap.size w1 w3 from ⟨hb3.os, hb3.tape, hb3.output, hb3.size, hb3.block⟩).mono (by omega))
      unfold RunPost
      rw [HU.out, HC.out, HUP.out, Int.toNat_natCast, ← HSE0.out]
      refine ⟨a4, c4, ?_, hown4.mono hB3.size, hB3.trans (hb4.mono hB3.size)⟩
      rw [runR_length, startS_length]; rfl
    ·
      obtain ⟨lU, hlU⟩ : ∃ lU, lU = U.length := ⟨_, rfl⟩
      have HUP := hide (show uptoL U n = U.take lU by unfold uptoL; rw [if_neg (by omega), hlU, List.take_length, List.take_of_length_le (by omega)])
      rw [← hlU] at HP hul
      try rw [← hlU] at h
      have HLU := hide hlU
      have hq : ¬ n < 0 := by omega
      clear hlU
      go_enter Try.func90, Try.ntmps90
      go_wp2_with (first
        | (go_at_call 63; go_must ((with_reducible refine (HP.out).mono ?_); rintro e w1 ⟨a1, c1, rfl, hown1, hb1⟩; have hbx1 := hbx.belowN hb1; obtain ⟨p0, p1, p2, p3⟩ := hbx1.c2; have HCAP := hide hown1.cap)))
      have hcap := HCAP.out.1
      rw [← HLU.out] at hcap
      have hNc : lU ≤ c1 := by omega
      have HTL := hide (show lU = (U.take lU).length by have := HLU.out; simp; omega)
      have HINT := hide (show ∀ x ∈ U.take lU, InR nr x from fun x hx => HIN.out x (List.mem_of_mem_take hx))
      have hat0 := hown1.at_.take lU
      have hat1 : At w1.drew a1 (U.take lU) := hat0
      have hrw0 := hr1.belowN hb1
      have hrw : At w1.drew ra r := hrw0
      have hbxd : Blk w1.drew w.heap.size 24 #[.int .i64 nr, .slice a f.flat.length c] := hbx1
      have hzz := hb1.size
      simp only [World.size_alloc] at hzz
      go_region_held3 (fun w' => w'.cell? ⟨w.heap.size, 0, none⟩ = some (.int .i64 (nr : Int))) (go_keep)
        (first
          | (go_at_call 68; go_must ((with_reducible refine (Start13_calls nr nr rfl ra rc r w1.drew (by omega) hrw (by omega)).mono ?_); rintro e w3 ⟨a3, c3, rfl, hown3, hb3⟩; obtain ⟨k0, k1, k2, k3⟩ := (hbxd.belowN hb3).c2))
          | (go_at_call 108; (with_reducible refine (Straight13N a1 c1 (U.take lU) _ HTL.out a3 c3 (startS nr r) nr (startS_length nr r) w3 (hat1.belowN hb3) (by simp; omega) hown3.at_ (by omega) HINT.out).mono ?_); rintro e w4 ⟨a4, c4, rfl, hown4, hb4⟩; obtain ⟨j0, j1, j2, j3⟩ := ((hbxd.belowN hb3).belowN hb4).c2))
      go_wp2
      go_ret2
      have hB3 : Below w.heap.size w w3 := (hb0.trans (hb1.mono hb0.size)).trans ((show Below w1.heap.size w1 w3 from ⟨hb3.os, hb3.tape, hb3.output, hb3.size, hb3.block⟩).mono (by omega))
      unfold RunPost
      rw [HU.out, HC.out, HUP.out, Int.toNat_natCast, ← HSE0.out]
      refine ⟨a4, c4, ?_, hown4.mono hB3.size, hB3.trans (hb4.mono hB3.size)⟩
      rw [runR_length, startS_length]; rfl
    ·
      obtain ⟨lU, hlU⟩ : ∃ lU, lU = U.length := ⟨_, rfl⟩
      have HUP := hide (show uptoL U N = U.take N by unfold uptoL; rw [if_neg (by omega)]; simp)
      rw [← hlU] at HP hul
      try rw [← hlU] at h
      have HLU := hide hlU
      have hq : ¬ lU < N := by omega
      clear hlU
      go_enter Try.func90, Try.ntmps90
      go_wp2_with (first
        | (go_at_call 63; go_must ((with_reducible refine (HP.out).mono ?_); rintro e w1 ⟨a1, c1, rfl, hown1, hb1⟩; have hbx1 := hbx.belowN hb1; obtain ⟨p0, p1, p2, p3⟩ := hbx1.c2; have HCAP := hide hown1.cap)))
      have hcap := HCAP.out.1
      rw [← HLU.out] at hcap
      have hNc : N ≤ c1 := by omega
      have HTL := hide (show N = (U.take N).length by have := HLU.out; simp; omega)
      have HINT := hide (show ∀ x ∈ U.take N, InR nr x from fun x hx => HIN.out x (List.mem_of_mem_take hx))
      have hat0 := hown1.at_.take N
      have hat1 : At w1.drew a1 (U.take N) := hat0
      have hrw0 := hr1.belowN hb1
      have hrw : At w1.drew ra r := hrw0
      have hbxd : Blk w1.drew w.heap.size 24 #[.int .i64 nr, .slice a f.flat.length c] := hbx1
      have hzz := hb1.size
      simp only [World.size_alloc] at hzz
      go_region_held3 (fun w' => w'.cell? ⟨w.heap.size, 0, none⟩ = some (.int .i64 (nr : Int))) (go_keep)
        (first
          | (go_at_call 68; go_must ((with_reducible refine (Start13_calls nr nr rfl ra rc r w1.drew (by omega) hrw (by omega)).mono ?_); rintro e w3 ⟨a3, c3, rfl, hown3, hb3⟩; obtain ⟨k0, k1, k2, k3⟩ := (hbxd.belowN hb3).c2))
          | (go_at_call 108; (with_reducible refine (Straight13N a1 c1 (U.take N) _ HTL.out a3 c3 (startS nr r) nr (startS_length nr r) w3 (hat1.belowN hb3) (by simp; omega) hown3.at_ (by omega) HINT.out).mono ?_); rintro e w4 ⟨a4, c4, rfl, hown4, hb4⟩; obtain ⟨j0, j1, j2, j3⟩ := ((hbxd.belowN hb3).belowN hb4).c2))
      go_wp2
      go_ret2
      have hB3 : Below w.heap.size w w3 := (hb0.trans (hb1.mono hb0.size)).trans ((show Below w1.heap.size w1 w3 from ⟨hb3.os, hb3.tape, hb3.output, hb3.size, hb3.block⟩).mono (by omega))
      unfold RunPost
      rw [HU.out, HC.out, HUP.out, Int.toNat_natCast, ← HSE0.out]
      refine ⟨a4, c4, ?_, hown4.mono hB3.size, hB3.trans (hb4.mono hB3.size)⟩
      rw [runR_length, startS_length]; rfl
  · have HU := hide (uptoS_bad hc n)
    unfold RunPost
    rw [HU.out]
    by_cases h0 : checkS regs l = 0
    · obtain ⟨f, rfl, g⟩ := good_of_check h0
      have hn : regs < (r.length : Int) := by
        rcases Int.lt_or_le regs r.length with h1 | h1
        · exact h1
        · exact absurd (dims_of_good g h1) hc
      have e10 : dimsS regs f.flat r.length = 10 := by unfold dimsS; rw [if_neg (by simpa using h0), if_pos hn]
      rw [e10]
      rw [h0] at HP
      clear h0 hc g e10
      go_enter Try.func90, Try.ntmps90
      go_wp2_with (go_at_call 63; ((with_reducible refine (HP.out).mono ?_); rintro e w1 ⟨a1, c1, rfl, hown1, hb1⟩; obtain ⟨p0, p1, p2, p3⟩ := (hbx.belowN hb1).c2))
      go_ret2
      exact ⟨none, 0, rfl, Own.none _ _ _, hb0.trans (hb1.mono hb0.size)⟩
    · have e10 : dimsS regs l r.length = checkS regs l := by unfold dimsS; rw [if_pos h0]
      rw [e10]
      obtain ⟨E, hE⟩ : ∃ E, E = checkS regs l := ⟨_, rfl⟩
      rw [← hE] at HP h0 ⊢
      have e1 : (E == 0) = false := by simpa using h0
      have e2 : (E != 0) = true := by simpa using h0
      clear h0 hc e10 hE
      go_enter Try.func90, Try.ntmps90
      go_wp2_with (go_at_call 63; ((with_reducible refine (HP.out).mono ?_); rintro e w1 ⟨a1, c1, rfl, hown1, hb1⟩))
      go_ret2
      exact ⟨none, 0, rfl, Own.none _ _ _, hb0.trans (hb1.mono hb0.size)⟩
theorem Run13_calls (regs : Int) (a : Option Addr) (c : Nat) (l : List OpD) (ra : Option Addr) (rc : Nat) (r : List UInt64) (w : World) (h : At w a l) (hl : l.length ≤ 1000000) (hr : At w ra r) (hrl : r.length ≤ 1000000) :
    Calls Try.prog 51 #[.agg #[.int .i64 regs, .slice a l.length c], .slice ra r.length rc] w (RunPost regs l r (-1) w) := by
  have hb0 := below_new12 w (.cells #[.int .i64 regs, .slice a l.length c] 24)
  have HP := hide (Upto13_calls regs a c l ra rc r (-1) _ (h.belowN hb0) hl (hr.belowN hb0) hrl)
  unfold RunPost at HP ⊢
  go_enter Try.func51, Try.ntmps51
  go_wp2_with (go_at_call 90; ((with_reducible refine (HP.out).mono ?_); rintro e w1 ⟨a1, c1, rfl, hown1, hb1⟩))
  go_ret2
  exact ⟨a1, c1, rfl, hown1.mono hb0.size, hb0.trans (hb1.mono hb0.size)⟩
end Go.Proofs.Ytibecjbbnpjgfaa
