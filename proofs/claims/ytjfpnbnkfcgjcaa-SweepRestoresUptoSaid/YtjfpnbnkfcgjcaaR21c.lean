/- Chapter 21, the document's answers: Undo. -/
import Derived.StillTailTactics
import Derived.Test.YtjfpnbnkfcgjcaaR21b
namespace Go.Proofs.Ytjfpnbnkfcgjcaa
set_option linter.unusedVariables false
set_option linter.unusedSimpArgs false
open Go.RowKit

theorem unR_drop (U : List OpD) (t r : List UInt64) {j : Nat} {x : OpD} {v : UInt64} (hx : U[j]? = some x) (hv : t[j]? = some v) :
    unR U.length t r (U.drop j) = (unR U.length t r (U.drop (j + 1))).set x.d.toNat v := by
  have hj := (List.getElem?_eq_some_iff.1 hx).1
  rw [drop_at hx]
  exact unR_cons (by rw [List.length_drop]; omega) (by rw [List.length_drop, show U.length - (U.length - (j + 1)) - 1 = j by omega]; exact hv)
theorem bkR_drop (U : List OpD) (t r w : List UInt64) {j : Nat} {x : OpD} {v : UInt64} (hx : U[j]? = some x) (hv : t[j]? = some v) :
    bkR U.length t r w (U.drop j) = ((bkR U.length t r w (U.drop (j + 1))).1.set x.d.toNat v, takeA x ((bkR U.length t r w (U.drop (j + 1))).1.set x.d.toNat v) (bkR U.length t r w (U.drop (j + 1))).2) := by
  have hj := (List.getElem?_eq_some_iff.1 hx).1
  rw [drop_at hx]
  exact bkR_cons (by rw [List.length_drop]; omega) (by rw [List.length_drop, show U.length - (U.length - (j + 1)) - 1 = j by omega]; exact hv)
set_option maxRecDepth 100000 in
set_option maxHeartbeats 800000 in
theorem Undo21_bad (regs : Int) (a : Option Addr) (c : Nat) (l : List OpD) (ra : Option Addr) (rc : Nat) (r : List UInt64) (ta : Option Addr) (tn tc : Nat) (w : World) (h : At w a l) (hl : l.length ≤ 1000000) (hr : At w ra r) (hrn : r.length ≤ 1000000) (htn : tn ≤ 1000000) (hc : readyS regs l r.length tn ≠ 0) :
    Calls Try.prog 30 #[.agg #[.int .i64 regs, .slice a l.length c], .slice ra r.length rc, .slice ta tn tc] w fun e w' => ∃ a1 c1, e = .returned (.tuple #[.slice a1 r.length c1, .int .i64 (readyS regs l r.length tn)]) ∧ Own w' w.heap.size 37 a1 c1 r ∧ Below w.heap.size w w' := by
  have hb0 := below_new12 w (.cells #[.int .i64 regs, .slice a l.length c] 24)
  have HP := hide (ready21_err regs a c l ra r.length rc ta tn tc _ (h.belowN hb0) hl hrn htn hc)
  obtain ⟨E, hE⟩ : ∃ E, E = readyS regs l r.length tn := ⟨_, rfl⟩
  rw [← hE] at HP hc ⊢
  have e1 : (E == 0) = false := by simpa using hc
  have e2 : (E != 0) = true := by simpa using hc
  have hr1 := hr.belowN hb0
  clear hE hc
  go_enter Try.func30, Try.ntmps30
  go_wp2_with (first
    | (go_at_call 59; ((with_reducible refine (HP.out).mono ?_); rintro e w1 ⟨rfl, hb1⟩; have hB1 := hb0.trans (hb1.mono hb0.size); have hr2 := hr1.belowN hb1))
    | (go_at_call 53; go_must ((with_reducible refine (Copy21_calls ra rc r w1 hr2 hrn).mono ?_); rintro e w2 ⟨a2, c2, rfl, hown2, hb2⟩)))
  go_ret2
  exact ⟨a2, c2, rfl, hown2.mono hB1.size, hB1.trans (hb2.mono hB1.size)⟩
set_option maxRecDepth 100000 in
set_option maxHeartbeats 3200000 in
theorem Undo21_good (regs : Int) (a : Option Addr) (c : Nat) (f : Fo) (g : Good regs f) (ra : Option Addr) (rc : Nat) (r : List UInt64) (ta : Option Addr) (tc : Nat) (t : List UInt64) (w : World) (h : At w a f.flat) (hr : At w ra r) (ht : At w ta t) (htn : t.length ≤ 1000000) (hn : (r.length : Int) = regs) (hu : f.unroll.length ≤ t.length) :
    Calls Try.prog 30 #[.agg #[.int .i64 regs, .slice a f.flat.length c], .slice ra r.length rc, .slice ta t.length tc] w fun e w' => ∃ a1 c1, e = .returned (.tuple #[.slice a1 r.length c1, .int .i64 0]) ∧ Own w' w.heap.size 37 a1 c1 (undoR f.unroll t r) ∧ Below w.heap.size w w' := by
  have hr64 : r.length ≤ 64 := by have := g.r2; omega
  have hul : f.unroll.length ≤ 65536 := by rw [Fo.unroll_length]; exact g.few
  have hb0 := below_new12 w (.cells #[.int .i64 regs, .slice a f.flat.length c] 24)
  have HP := hide (ready21_ok regs a c f g ra r.length rc ta t.length tc _ (h.belowN hb0) (by omega) htn hn hu)
  have HIN := hide (good_inR g)
  have hr1 := hr.belowN hb0
  have ht1 := ht.belowN hb0
  generalize f.unroll = U at *
  have HN := hide hn
  have HU := hide hu
  obtain ⟨nr, hnr⟩ : ∃ nr, nr = r.length := ⟨_, rfl⟩
  obtain ⟨nt, hnt⟩ : ∃ nt, nt = t.length := ⟨_, rfl⟩
  have HNR := hide hnr
  have HNT := hide hnt
  have HC1 := hide (fun W (h : At W ra r) => Copy21_calls ra rc r W h (by omega))
  rw [← hnr] at HP HC1 hr64
  rw [← hnt] at HP htn hu
  rw [← hnr, ← hnt]
  clear g hn hnr hnt
  obtain ⟨P, hP⟩ : ∃ P, P = (fun e w' => ∃ a1 c1, e = Ending.returned (.tuple #[.slice a1 nr c1, .int .i64 0]) ∧ Own w' w.heap.size 37 a1 c1 (undoR U t r) ∧ Below w.heap.size w w') := ⟨_, rfl⟩
  rw [← hP]
  have HPP := hide hP
  clear hP
  go_enter Try.func30, Try.ntmps30
  go_wp2_with (first
    | (go_at_call 59; ((with_reducible refine (HP.out).mono ?_); rintro e w1 ⟨a1, c1, rfl, hown1, hb1⟩; have hB1 := hb0.trans (hb1.mono hb0.size); have hr2 := hr1.belowN hb1; have ht2 := ht1.belowN hb1))
    | (go_at_call 53; go_must ((with_reducible refine (HC1.out _ hr2).mono ?_); rintro e w2 ⟨a2, c2, rfl, hown2, hb2⟩; have ht3 := ht2.belowN hb2)))
  have hB2 := hB1.trans (hb2.mono hB1.size)
  have hz1 := hb1.size
  have hz2 := hb2.size
  have hat := hown1.belowN hb2
  have hzb : w.heap.size ≤ w1.heap.size := hB1.size
  have hne1 : ∀ q1 q2, a1.map (·.block) = some q1 → a2.map (·.block) = some q2 → q1 < q2 := fun q1 q2 e1 e2 => by
    have h1 := (hown1.blk q1 e1).2
    have h2 := (hown2.blk q2 e2).1; omega
  have HNE1 := hide hne1
  clear hne1
  go_loopw [11] (fun iv wr => ∃ (k : Nat) (i : Int), iv = .int .i64 i ∧ Hid (i = (k : Int) - 1) ∧ k ≤ U.length ∧ At wr a1 U ∧ At wr ta t ∧ Own wr w.heap.size 37 a2 c2 (unR U.length t r (U.drop k)) ∧ Below w.heap.size w wr) (fun iv _ => (intOf iv + 1).toNat)
  case atStart => exact ⟨U.length, _, rfl, rfl, by omega, hat.at_, ht3, by rw [List.drop_length]; exact hown2.mono (by omega), hB2⟩
  case round =>
    obtain ⟨k, i, rfl, hi, hk, hxU, hxt, hown, hb⟩ := hrel
    have hzr := hb.size
    cases k with
    | succ j =>
      obtain rfl : i = (j : Int) := by have := hi.out; omega
      have hlt : j < U.length := by omega
      obtain ⟨b1, off1, x, rfl, hx, x0, x1, x2, x3, x4⟩ := hxU.getOp (Below.refl _ _) hlt
      have hjt : j < nt := by omega
      obtain ⟨b3, off3, v, rfl, hv, v0⟩ := hxt.getU (Below.refl _ _) (show j < t.length by have := HNT.out; omega)
      obtain ⟨⟨d1, d2⟩, _, _⟩ := HIN.out x (List.mem_of_getElem? hx.out)
      have HSN := hide (unR_drop U t r hx.out hv.out)
      have hlr : (unR U.length t r (U.drop (j + 1))).length = nr := by rw [unR_length, HNR.out]
      have hnR := HN.out
      rw [← HNR.out] at hnR
      generalize hR : unR U.length t r (U.drop (j + 1)) = R at *
      rcases hown.form with ⟨_, _, e⟩ | ⟨gr, rfl, hg1, hg2⟩
      · subst e; simp at hlr; omega
      have hg5 : b1 < gr := HNE1.out b1 gr rfl rfl
      have hD3 : x.d < (nr : Int) := by omega
      obtain ⟨vd, hvd⟩ : ∃ vd, R[x.d.toNat]? = some vd := ⟨R[x.d.toNat]'(by omega), List.getElem?_eq_getElem _⟩
      have rd0 : wr.cell? ⟨gr, x.d.toNat, none⟩ = some (.int .u64 (vd.toNat : Int)) := by simpa [Flat.n] using hown.cellAt hvd (f := 0) rfl
      have rf0 := hown.frozen x.d.toNat
      have hb3 : b3 < w.heap.size := by
        obtain ⟨b4, o4, e4, h4⟩ := ht.lt (by intro e; rw [e] at hv; cases hv.out)
        injection e4 with e4
        injection e4 with e5 _ _
        rw [e5]; exact h4
      have hd : decide (0 ≤ (j : Int)) = true := by simp
      clear hR ht
      go_wp2_with fail
      go_still_tail 11, (by kernel_rfl)
      change wpList _ _ _ _ _ wr.drew
      go_wp2_with fail
      have hT3 : Turned [gr] wr (wr.setCell ⟨gr, x.d.toNat, none⟩ (.int .u64 (v.toNat : Int))).drew := (Turned.ofGrown (F := [gr]) (grown_setCell _ _ _ _) (fun q hq => .inl (by injection hq with hq; simp [hq]))).drew
      have hown3 : Own (wr.setCell ⟨gr, x.d.toNat, none⟩ (.int .u64 (v.toNat : Int))).drew w.heap.size 37 (some ⟨gr, 0, none⟩) c2 (R.set x.d.toNat v) := (hown.set1 x.d.toNat v _ rfl).drew
      rw [← HSN.out] at hown3
      have hxU3 := hxU.turned hT3 (fun _ q hq => by simp at hq; simp; omega)
      have hxt3 := hxt.turned hT3 (fun _ q hq => by simp at hq; simp; omega)
      have hb5 : Below w.heap.size w (wr.setCell ⟨gr, x.d.toNat, none⟩ (.int .u64 (v.toNat : Int))).drew := (hb.setCell hg1 _).drew
      go_roundw
      case rel => exact ⟨j, (j : Int) - 1, by first | rfl | go_num, rfl, by omega, hxU3, hxt3, hown3, hb5⟩
      case measure => simp [intOf] <;> omega
    | zero =>
      obtain rfl : i = -1 := by have := hi.out; omega
      rw [List.drop_zero, unR_all] at hown
      have hd : decide (0 ≤ (-1 : Int)) = false := by decide
      go_wp2
      rw [HPP.out]
      exact ⟨a2, c2, rfl, hown, hb⟩
theorem Undo21_calls (regs : Int) (a : Option Addr) (c : Nat) (l : List OpD) (ra : Option Addr) (rc : Nat) (r : List UInt64) (ta : Option Addr) (tc : Nat) (t : List UInt64) (w : World) (h : At w a l) (hl : l.length ≤ 1000000) (hr : At w ra r) (ht : At w ta t) (hrn : r.length ≤ 1000000) (htn : t.length ≤ 1000000) :
    Calls Try.prog 30 #[.agg #[.int .i64 regs, .slice a l.length c], .slice ra r.length rc, .slice ta t.length tc] w fun e w' => ∃ a1 c1, e = .returned (.tuple #[.slice a1 r.length c1, .int .i64 (readyS regs l r.length t.length)]) ∧ Own w' w.heap.size 37 a1 c1 (undS regs l r t) ∧ Below w.heap.size w w' := by
  by_cases hc : readyS regs l r.length t.length = 0
  · rw [hc]
    obtain ⟨f, rfl, g, hn, hu⟩ := ready_good hc
    obtain ⟨_, _, _, e4⟩ := rec_good g hn hu
    rw [e4]
    exact Undo21_good regs a c f g ra rc r ta tc t w h hr ht htn hn hu
  · obtain ⟨_, _, _, e4⟩ := rec_bad hc
    rw [e4]
    exact Undo21_bad regs a c l ra rc r ta t.length tc w h hl hr hrn htn hc
end Go.Proofs.Ytjfpnbnkfcgjcaa
