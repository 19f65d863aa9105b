/- Several texts of mine in one file. -/
import Derived.Test.YtcamcnahkdiefaaGreatYSRal
import Derived.Test.YtcamcnahkdiefaaGreatYSRad
import Derived.StillTailTactics
import Derived.Test.YtcamcnahkdiefaaGreatYSRam
import Derived.Test.YtcamcnahkdiefaaGreatYSRac
import Derived.Deep.RegionLaw
import Derived.Test.YtcamcnahkdiefaaGreatYSRaa
import Derived.Deep.RegionHeld3
/- Chapter 15: the page's example, walked; the law SymbolTells, walked. -/
namespace Go.Proofs.YtcamcnahkdiefaaGreat
set_option linter.unusedVariables false
set_option linter.unusedSimpArgs false
open Go.RowKit
/-- what the first polynomials look like -/
theorem poly_look {P : Nat → Prop} {w wr : World} {va : Int} {a : Option Addr} {hs : List PoH} {R : List (List Tm)} (hO : At w a hs) (hP : PsAt P w va hs R) (hb : Below w.heap.size w wr) {k j : Nat} {L : List Tm} {t : Tm} (hk : R[k]? = some L) (hj : L[j]? = some t) {u : Int} (hu : (t.1.toNat : Int) = u) :
    ∃ (b off tb tf n c : Nat), a = some ⟨b, off, none⟩ ∧ wr.cell? ⟨b, off + k * 2, none⟩ = some (.int .i64 va) ∧ wr.cell? ⟨b, off + k * 2 + 1, none⟩ = some (.slice (some ⟨tb, tf, none⟩) n c) ∧ Hid (n = L.length) ∧ wr.cell? ⟨tb, tf + j * 2, none⟩ = some (.int .u64 u) := by
  have hkl := (List.getElem?_eq_some_iff.1 hk).1
  have hjl := (List.getElem?_eq_some_iff.1 hj).1
  obtain ⟨b, off, x, rfl, hx, c0, c1⟩ := hO.getPo hb (k := k) (by rw [hP.1]; exact hkl)
  obtain ⟨v, tx⟩ := hP.2 k x L hx.out hk
  obtain ⟨tb, tf, t', ea, en, ec, e1, e2, e3, _⟩ := tx.at_.at_.get hb hjl
  obtain rfl : t' = t := Option.some.inj (e2.out.symm.trans hj)
  rw [v] at c0
  rw [e1] at c1
  rw [hu] at e3
  exact ⟨b, off, tb, tf, x.n, x.c, rfl, c0, c1, hide tx.len, e3⟩
set_option maxRecDepth 100000 in
set_option maxHeartbeats 6400000 in
theorem goes15_calls (w : World) : Calls Tryz.prog 11 #[] w fun v w' => v = .returned (.bool true) ∧ Below w.heap.size w w' := by
  have hO := Blk.new w 89 #[.int .i64 1, .int .i64 0, .int .i64 0, .int .i64 1, .int .u64 0, .int .i64 3, .int .i64 0, .int .i64 0, .int .i64 0, .int .u64 0]
  have hX := Blk.new (w.alloc (.cells #[.int .i64 1, .int .i64 0, .int .i64 0, .int .i64 1, .int .u64 0, .int .i64 3, .int .i64 0, .int .i64 0, .int .i64 0, .int .u64 0] 89)) 24 #[.int .i64 2, .slice (some ⟨w.heap.size, 0, none⟩) 2 2]
  simp only [World.size_alloc] at hX
  have hb0 : Below w.heap.size w ((w.alloc (.cells #[.int .i64 1, .int .i64 0, .int .i64 0, .int .i64 1, .int .u64 0, .int .i64 3, .int .i64 0, .int .i64 0, .int .i64 0, .int .u64 0] 89)).alloc (.cells #[.int .i64 2, .slice (some ⟨w.heap.size, 0, none⟩) 2 2] 24)) := (below_box w _).alloc (by simp) _
  have hat : At (w.alloc (.cells #[.int .i64 1, .int .i64 0, .int .i64 0, .int .i64 1, .int .u64 0, .int .i64 3, .int .i64 0, .int .i64 0, .int .i64 0, .int .u64 0] 89)) (some ⟨w.heap.size, 0, none⟩) exO15.flat := At.ofBlk hO _ rfl
  have hat0 := hat.belowN (below_box _ (.cells #[.int .i64 2, .slice (some ⟨w.heap.size, 0, none⟩) 2 2] 24))
  obtain ⟨p0, p1, p2, p3⟩ := hX.c2
  have HP : Hid (∀ W, At W (some ⟨w.heap.size, 0, none⟩) exO15.flat → Calls Tryz.prog 12 #[.agg #[.int .i64 2, .slice (some ⟨w.heap.size, 0, none⟩) 2 2]] W (PolysOut 2 [exS15, [(1, [0, 1])]] 0 W)) := hide (fun W hW => Polys_calls 2 _ 2 exO15.flat W hW (by decide) 0 _ exO15_run)
  have HG : Hid (∀ W, At W (some ⟨w.heap.size, 0, none⟩) exO15.flat → Calls Tryz.prog 14 #[.agg #[.int .i64 2, .slice (some ⟨w.heap.size, 0, none⟩) 2 2], .int .i64 0] W (PolysOut 2 [sortT (drvT 0 exS15), exD15] 0 W)) := hide (fun W hW => Gradient_calls 2 _ 2 exO15.flat W hW (by decide) 0 0 _ exO15_grad)
  clear hO
  go_enter Tryz.func11, Tryz.ntmps11
  go_wp2_with (first
    | (go_at_call 12; go_must ((with_reducible refine (HP.out _ hat0).mono ?_); rintro v w1 ⟨a1, n1, c1, hs1, rfl, hn1, hown1, hP1, hb1⟩; obtain rfl : n1 = 2 := hn1; have hat1 := hat0.belowN hb1; obtain ⟨q0, q1, q2, q3⟩ := (hX.belowN hb1).c2))
    | (go_at_call 14; go_must ((with_reducible refine (HG.out _ hat1).mono ?_); rintro v w2 ⟨a2, n2, c2, hs2, rfl, hn2, hown2, hP2, hb2⟩; obtain rfl : n2 = 2 := hn2; obtain ⟨b, off, tb, tf, n, c, rfl, l0, l1, hn, l2⟩ := poly_look hown1.at_ hP1 hb2 (k := 0) (j := 1) (L := exS15) (t := (2, [1, 1])) rfl rfl (u := 2) rfl; obtain rfl : n = 3 := hn.out; obtain ⟨b', off', tb', tf', n', c', rfl, l3, l4, hn', l5⟩ := poly_look hown2.at_ hP2 (Below.refl _ _) (k := 1) (j := 0) (L := exD15) (t := (2, [1, 0])) rfl rfl (u := 2) rfl; obtain rfl : n' = 2 := hn'.out; simp only [Nat.zero_mul, Nat.add_zero, Nat.one_mul] at l0 l1 l2 l3 l4 l5)))
  go_ret
  exact ⟨rfl, hb0.trans ((hb1.trans (hb2.mono hb1.size)).mono hb0.size)⟩
theorem gradS_all {regs : Int} {l : List OpD} {k E : Int} {R : List (List Tm)} (h : gradS regs l k = (E, R)) : AllP regs R ∧ R.length ≤ 64 := by
  obtain ⟨E0, hE0⟩ : ∃ E, (polysS regs l).1 = E := ⟨_, rfl⟩
  obtain ⟨R0, hR0⟩ : ∃ R, (polysS regs l).2 = R := ⟨_, rfl⟩
  have hp : polysS regs l = (E0, R0) := by rw [← hE0, ← hR0]
  unfold gradS at h
  rw [hE0, hR0] at h
  split at h
  · simp only [Prod.mk.injEq] at h
    rw [← h.2]; exact ⟨fun L hL => (by cases hL), by simp⟩
  · rename_i h0
    split at h
    · simp only [Prod.mk.injEq] at h
      rw [← h.2]; exact ⟨fun L hL => (by cases hL), by simp⟩
    · rename_i hk
      simp only [Prod.mk.injEq] at h
      have hA := polysS_all hp
      have hcA := hA.get (k := k.toNat) (by omega)
      have hlen := (polysS_len hp).1 (Decidable.not_not.1 h0)
      have hv := (checkP_ok hcA).v
      have hv2 := (checkP_ok hcA).n64
      rw [← h.2]
      refine ⟨fun L hL => ?_, by simp; omega⟩
      obtain ⟨i, hi, rfl⟩ := List.mem_map.1 hL
      exact (drv_facts hcA (j := i) (by have := List.mem_range.1 hi; omega)).2.2.2.2
theorem polysS_64 {regs : Int} {l : List OpD} {E : Int} {R : List (List Tm)} (h : polysS regs l = (E, R)) : R.length ≤ 64 := by
  by_cases hE : E = 0
  · have h1 := (polysS_len h).1 hE
    by_cases hc : checkS regs l = 0
    · obtain ⟨f, rfl, g⟩ := good_of_check hc
      have := g.r2; omega
    · unfold polysS at h
      rw [if_neg hc] at h
      simp only [Prod.mk.injEq] at h
      exact absurd (h.1.trans hE) hc
  · rw [(polysS_len h).2 hE]; simp
end Go.Proofs.YtcamcnahkdiefaaGreat

/- Chapter 7: partials, the program's and the document's. -/
namespace Go.Proofs.YtcamcnahkdiefaaGreat
set_option linter.unusedVariables false
set_option linter.unusedSimpArgs false
open Go.RowKit
theorem part_no {x : OpD} (a b : UInt64) (h : x.kind < 0 ∨ 7 < x.kind) : partU x a b = (0, 0) := by
  unfold partU
  rw [if_neg (by omega), if_neg (by omega), if_neg (by omega), if_neg (by omega), if_neg (by omega)]
theorem ret_uu {a b c d : Int} (h : a = b) (k : c = d) : Ending.returned (.tuple #[.int .u64 a, .int .u64 c]) = .returned (.tuple #[.int .u64 b, .int .u64 d]) := by rw [h, k]
theorem Partials_calls (x : OpD) (a b : UInt64) (w : World) : Calls Tryz.prog 153 #[.agg #[.int .i64 x.kind, .int .i64 x.d, .int .i64 x.a, .int .i64 x.b, .int .u64 (x.v.toNat : Int)], .int .u64 (a.toNat : Int), .int .u64 (b.toNat : Int)] w fun e w' => e = .returned (.tuple #[.int .u64 ((partU x a b).1.toNat : Int), .int .u64 ((partU x a b).2.toNat : Int)]) ∧ Below w.heap.size w w' := by
  obtain ⟨k, rd, ra, rb, v⟩ := x
  simp only
  rcases kind8 k with h | rfl | rfl | rfl | rfl | rfl | rfl | rfl | rfl | h
  case inl =>
    obtain ⟨h0, h1, h2, h3, h4, h5, h6, h7⟩ := kind_no (.inl h)
    go_enter Tryz.func153, Tryz.ntmps153
    go_wp2
    go_ret2
    exact ⟨ret_uu (by rw [part_no a b (.inl h)]; rfl) (by rw [part_no a b (.inl h)]; rfl), (by with_reducible repeat first | exact Below.refl _ _ | assumption | refine below_drewN ?_ _ | refine Below.drew ?_ | refine Below.alloc ?_ (by simp <;> omega) _ | refine Below.setCell ?_ (by simp <;> omega) _)⟩
  case inr.inr.inr.inr.inr.inr.inr.inr.inr =>
    obtain ⟨h0, h1, h2, h3, h4, h5, h6, h7⟩ := kind_no (.inr h)
    go_enter Tryz.func153, Tryz.ntmps153
    go_wp2
    go_ret2
    exact ⟨ret_uu (by rw [part_no a b (.inr h)]; rfl) (by rw [part_no a b (.inr h)]; rfl), (by with_reducible repeat first | exact Below.refl _ _ | assumption | refine below_drewN ?_ _ | refine Below.drew ?_ | refine Below.alloc ?_ (by simp <;> omega) _ | refine Below.setCell ?_ (by simp <;> omega) _)⟩
  all_goals
    go_enter Tryz.func153, Tryz.ntmps153
    go_wp2
    go_ret2
    exact ⟨ret_uu rfl rfl, (by with_reducible repeat first | exact Below.refl _ _ | assumption | refine below_drewN ?_ _ | refine Below.drew ?_ | refine Below.alloc ?_ (by simp <;> omega) _ | refine Below.setCell ?_ (by simp <;> omega) _)⟩
end Go.Proofs.YtcamcnahkdiefaaGreat

/- Several texts of mine in one file: Db, Dc, Dd. -/
/- Duals, plain: the run that is derived by one register. No program is named here. -/
namespace Go.Proofs.YtcamcnahkdiefaaGreat
set_option linter.unusedVariables false
set_option linter.unusedSimpArgs false
open Go.RowKit
theorem startD_get (n : Nat) (r : List DuD) (j : Nat) : (startD n r)[j]? = if j < r.length then r[j]? else if j < n then some ⟨0, 0⟩ else none := by
  unfold startD
  by_cases h : j < r.length
  · rw [if_pos h, List.getElem?_append_left h]
  · rw [if_neg h, List.getElem?_append_right (by omega), List.getElem?_replicate]
    by_cases h2 : j < n
    · rw [if_pos h2, if_pos (by omega)]
    · rw [if_neg h2, if_neg (by omega)]
theorem startR_get (n : Nat) (r : List UInt64) (j : Nat) : (startR n r)[j]? = if j < r.length then r[j]? else if j < n then some 0 else none := by
  unfold startR
  by_cases h : j < r.length
  · rw [if_pos h, List.getElem?_append_left h]
  · rw [if_neg h, List.getElem?_append_right (by omega), List.getElem?_replicate]
    by_cases h2 : j < n
    · rw [if_pos h2, if_pos (by omega)]
    · rw [if_neg h2, if_neg (by omega)]
theorem startD_len (n : Nat) (r : List DuD) : (startD n r).length = max n r.length := by simp [startD]; omega
/-- the registers as duals, derived by the one of number i -/
def alongL (r : List UInt64) (i : Nat) : List DuD := (startD (i + 1) (ofWords r)).set i ⟨(r[i]?).getD 0, 1⟩
theorem alongL_len (r : List UInt64) (i : Nat) : (alongL r i).length = max (i + 1) r.length := by unfold alongL; rw [List.length_set, startD_len, ofWords_length]
theorem ofWords_get (r : List UInt64) (j : Nat) : (ofWords r)[j]? = (r[j]?).map fun x => ⟨x, 0⟩ := by simp [ofWords]
theorem alongL_start (r : List UInt64) (i n : Nat) (hi : i < n) (hr : r.length ≤ n) : startD n (alongL r i) = zipD (startR n r) (unitR n i) := by
  apply List.ext_getElem?
  intro j
  rw [startD_get, alongL_len]
  unfold zipD unitR alongL
  rw [List.getElem?_zipWith, startR_get, List.getElem?_set, List.getElem?_set, startD_get, startD_len, List.getElem?_replicate, List.length_replicate, ofWords_length, ofWords_get]
  by_cases hij : i = j
  · subst hij
    rw [if_pos rfl, if_pos rfl, if_pos (by omega), if_pos (by omega), if_pos hi]
    by_cases h1 : i < r.length
    · rw [if_pos h1, List.getElem?_eq_getElem h1, if_pos hi]; rfl
    · rw [if_neg h1, if_pos hi, List.getElem?_eq_none (by omega)]; rfl
  · rw [if_neg hij, if_neg hij]
    by_cases h1 : j < r.length
    · rw [if_pos (by omega), if_pos h1, if_pos h1, if_pos (by omega), List.getElem?_eq_getElem h1]; rfl
    · rw [if_neg h1, if_neg h1]
      by_cases h2 : j < n
      · by_cases h3 : j < i + 1
        · rw [if_pos (by omega), if_pos h3, if_pos h2]
        · rw [if_neg (by omega), if_pos h2, if_pos h2]
      · rw [if_neg (by omega), if_neg h2, if_neg h2]
/-- may it be derived by a register? -/
def alongE (regs : Int) (l : List OpD) (rn : Nat) (i : Int) : Int := if dualE regs l rn ≠ 0 then dualE regs l rn else if i < 0 ∨ regs ≤ i then 2 else 0
noncomputable def alongA (regs : Int) (l : List OpD) (r : List UInt64) (i : Int) : List UInt64 := if alongE regs l r.length i = 0 then runT (unrS regs l) (startR regs.toNat r) (unitR regs.toNat i.toNat) else []
theorem alongE_of {regs : Int} {f : Fo} (g : Good regs f) {rn : Nat} {i : Int} (hn : (rn : Int) ≤ regs) (h0 : 0 ≤ i) (h1 : i < regs) : alongE regs f.flat rn i = 0 := by
  unfold alongE
  rw [if_neg (by simpa using dualE_of g hn), if_neg (by omega)]
theorem alongA_good {regs : Int} {f : Fo} (g : Good regs f) {r : List UInt64} {i : Int} (hn : (r.length : Int) ≤ regs) (h0 : 0 ≤ i) (h1 : i < regs) : alongA regs f.flat r i = runT f.unroll (startR regs.toNat r) (unitR regs.toNat i.toNat) := by
  unfold alongA
  rw [if_pos (alongE_of g hn h0 h1), unrS_good g]
theorem alongA_len {regs : Int} {f : Fo} (g : Good regs f) {r : List UInt64} {i : Int} (hn : (r.length : Int) ≤ regs) (h0 : 0 ≤ i) (h1 : i < regs) : (alongA regs f.flat r i).length = regs.toNat := by
  rw [alongA_good g hn h0 h1, runT_length]; simp [unitR]
/-- the run that is derived by it -/
theorem along_run {nr : Nat} {f : Fo} (g : Good nr f) {r : List UInt64} {i : Nat} (hn : r.length ≤ nr) (hi : i < nr) :
    dualE nr f.flat (alongL r i).length = 0 ∧ (dualR nr f.flat (alongL r i)).length = nr ∧ (dualR nr f.flat (alongL r i)).map (·.d) = alongA nr f.flat r i ∧ (dualR nr f.flat (alongL r i)).map (·.v) = runR f.unroll (startR nr r) := by
  have hl : (alongL r i).length ≤ nr := by rw [alongL_len]; omega
  have hll : (startR nr r).length = (unitR nr i).length := by rw [startR_length _ _ hn]; simp [unitR]
  have e : dualR nr f.flat (alongL r i) = zipD (runR f.unroll (startR nr r)) (runT f.unroll (startR nr r) (unitR nr i)) := by
    rw [dualR_good g (by omega), Int.toNat_natCast, alongL_start r i nr hi hn]
    exact runD_zip _ (fun x hx => (f.unroll_mem g.ok x hx).2) _ _ hll
  have hl2 : (runR f.unroll (startR nr r)).length = (runT f.unroll (startR nr r) (unitR nr i)).length := by rw [runR_length, runT_length, hll]
  refine ⟨dualE_of g (by omega), ?_, ?_, ?_⟩
  · rw [e, zipD_length _ _ hl2, runR_length, startR_length _ _ hn]
  · rw [e, zipD_d _ _ hl2, alongA_good g (by omega) (by omega) (by omega), Int.toNat_natCast, Int.toNat_natCast]
  · rw [e, zipD_v _ _ hl2]
end Go.Proofs.YtcamcnahkdiefaaGreat

/- Chapter 14: ref14.Along, whole. -/
namespace Go.Proofs.YtcamcnahkdiefaaGreat
set_option linter.unusedVariables false
set_option linter.unusedSimpArgs false
open Go.RowKit
theorem map_d_snoc {L : List DuD} {k : Nat} {x : DuD} (h : L[k]? = some x) : (L.take k).map (·.d) ++ [x.d] = (L.take (k + 1)).map (·.d) := by
  rw [List.take_add_one, h]; simp
end Go.Proofs.YtcamcnahkdiefaaGreat

/- Chapter 14: ref14.Pull. -/
namespace Go.Proofs.YtcamcnahkdiefaaGreat
set_option linter.unusedVariables false
set_option linter.unusedSimpArgs false
open Go.RowKit
end Go.Proofs.YtcamcnahkdiefaaGreat
