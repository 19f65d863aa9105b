/- Chapter 21: TapeSegments. -/
import Derived.Test.YtjfpnbnkfcgjcaaW21b
namespace Go.Proofs.Ytjfpnbnkfcgjcaa
set_option linter.unusedVariables false
set_option linter.unusedSimpArgs false
open Go.RowKit
theorem isW_kind21 (f : Fo) (hf : f.ok) : ∀ j, f.isW j → ∃ x, f.flat[j]? = some x ∧ 1 ≤ x.kind ∧ x.kind ≤ 6 := by
  induction f with
  | nil => intro j h; exact h.elim
  | leaf op r ih =>
    intro j h
    obtain ⟨h1, h2, h3⟩ := hf
    rw [Fo.isW] at h
    cases j with
    | zero => exact ⟨op, rfl, h1, h2⟩
    | succ j => rw [if_neg (by omega)] at h; exact ih h3 j h
  | rep op b fin r ihb ihr =>
    intro j h
    obtain ⟨h1, h2, h3, h4⟩ := hf
    have hbs : b.size = b.flat.length := rfl
    rw [Fo.isW] at h
    cases j with
    | zero => rw [if_pos rfl] at h; exact h.elim
    | succ j =>
      rw [if_neg (by omega)] at h
      by_cases hj : j + 1 ≤ b.size + 1
      · rw [if_pos hj] at h
        obtain ⟨x, hx, hk⟩ := ihb h2 j h
        have hl := (List.getElem?_eq_some_iff.1 hx).1
        exact ⟨x, by show (b.flat ++ fin :: r.flat)[j]? = some x; rw [List.getElem?_append_left hl]; exact hx, hk⟩
      · rw [if_neg hj] at h
        obtain ⟨x, hx, hk⟩ := ihr h4 _ h
        refine ⟨x, ?_, hk⟩
        show (b.flat ++ fin :: r.flat)[j]? = some x
        rw [List.getElem?_append_right (by omega), show j - b.flat.length = (j + 1 - b.size - 2) + 1 by omega]
        exact hx
theorem atw_le21 (f : Fo) : ∀ n, ∀ r ∈ (f.atw n).2, r ≤ (n : Int) := by
  induction f with
  | nil => intro n r h; cases h
  | leaf op r ih => intro n x h; rw [Fo.atw] at h; split at h <;> first | cases h | (have := ih _ x h; omega)
  | rep op b fin r ihb ihr =>
    intro n x h
    rw [Fo.atw] at h
    split at h
    · rcases List.mem_cons.1 h with rfl | h
      · exact Int.ofNat_le.2 (Nat.div_le_self _ _)
      · have := ihb _ x h; have := Nat.mod_le n b.wr; omega
    · have := ihr _ x h; omega
theorem atw_len (f : Fo) : ∀ n, (f.atw n).2.length ≤ f.size := by
  induction f with
  | nil => intro n; exact Nat.zero_le _
  | leaf op r ih => intro n; rw [Fo.atw, Fo.size_leaf]; split <;> first | exact Nat.zero_le _ | (have := ih (n - 1); simp only; omega)
  | rep op b fin r ihb ihr =>
    intro n
    rw [Fo.atw, Fo.size_rep]
    split
    · have := ihb (n % b.wr); simp only [List.length_cons]; omega
    · have := ihr (n - b.wr * op.v.toNat); simp only; omega
theorem rep_get (l : List OpD) : ∀ (V n : Nat), n < l.length * V → ((List.replicate V l).flatten)[n]? = l[n % l.length]? := by
  intro V
  induction V with
  | zero => intro n h; simp at h
  | succ V ih =>
    intro n h
    rw [List.replicate_succ, List.flatten_cons]
    by_cases hn : n < l.length
    · rw [List.getElem?_append_left hn, Nat.mod_eq_of_lt hn]
    · rw [List.getElem?_append_right (by omega), ih (n - l.length) (by rw [Nat.mul_succ] at h; omega), ← Nat.mod_eq_sub_mod (by omega)]
/-- the write of a number is the operation at its place -/
theorem atw_op (f : Fo) : ∀ n, n < f.wr → f.flat[(f.atw n).1]? = f.unroll[n]? := by
  induction f with
  | nil => intro n h; simp [Fo.wr] at h
  | leaf op r ih =>
    intro n h
    rw [Fo.atw]
    by_cases hn : n = 0
    · subst hn; rw [if_pos rfl]; rfl
    · obtain ⟨m, rfl⟩ : ∃ m, n = m + 1 := ⟨n - 1, by omega⟩
      rw [if_neg hn]
      simp only [Nat.add_sub_cancel]
      have hw : m < r.wr := by rw [Fo.wr] at h; omega
      exact ih m hw
  | rep op b fin r ihb ihr =>
    intro n h
    rw [Fo.atw]
    have hul : ((List.replicate op.v.toNat b.unroll).flatten).length = b.wr * op.v.toNat := by rw [Fo.length_rep, Fo.unroll_length]; try exact Nat.mul_comm _ _
    by_cases hn : n < b.wr * op.v.toNat
    · rw [if_pos hn]
      have hb0 : 0 < b.wr := by
        rcases Nat.eq_zero_or_pos b.wr with h0 | h0
        · rw [h0, Nat.zero_mul] at hn; omega
        · exact h0
      have hbl := Nat.mod_lt n hb0
      have e1 : (Fo.rep op b fin r).unroll[n]? = b.unroll[n % b.wr]? := by
        show ((List.replicate op.v.toNat b.unroll).flatten ++ r.unroll)[n]? = _
        rw [List.getElem?_append_left (by omega), rep_get _ _ _ (by rw [Fo.unroll_length]; exact hn), Fo.unroll_length]
      rw [e1, ← ihb _ hbl]
      show (b.flat ++ fin :: r.flat)[(b.atw (n % b.wr)).1]? = _
      rw [List.getElem?_append_left (b.atw_lt _ hbl)]
    · rw [if_neg hn]
      have hr : n - b.wr * op.v.toNat < r.wr := by
        have : (Fo.rep op b fin r).wr = b.wr * op.v.toNat + r.wr := rfl
        omega
      have e1 : (Fo.rep op b fin r).unroll[n]? = r.unroll[n - b.wr * op.v.toNat]? := by
        show ((List.replicate op.v.toNat b.unroll).flatten ++ r.unroll)[n]? = _
        rw [List.getElem?_append_right (by omega), hul]
      rw [e1, ← ihr _ hr]
      show (op :: (b.flat ++ fin :: r.flat))[(r.atw (n - b.wr * op.v.toNat)).1 + b.size + 2]? = _
      have hbs : b.size = b.flat.length := rfl
      rw [List.getElem?_cons_succ, List.getElem?_append_right (by omega), show (r.atw (n - b.wr * op.v.toNat)).1 + b.size + 1 - b.flat.length = (r.atw (n - b.wr * op.v.toNat)).1 + 1 by omega, List.getElem?_cons_succ]
theorem tapeR_get (U : List OpD) : ∀ (r : List UInt64) (n : Nat) (x : OpD), U[n]? = some x → (tapeR U r)[n]? = some (getR (runR (U.take n) r) x.d) := by
  induction U with
  | nil => intro r n x h; simp at h
  | cons y U ih =>
    intro r n x h
    cases n with
    | zero => simp at h; subst h; rfl
    | succ n => exact ih (stepR r y) n x (by simpa using h)
theorem place21 {regs : Int} {f : Fo} (g : Good regs f) {n : Nat} (hn : n < f.wr) : placeS regs f.flat ((f.atw n).1 : Int) (f.atw n).2 = ((n : Int), 0) := by
  obtain ⟨h1, h2, h3⟩ := f.plc_atw n hn
  have hlt := f.atw_lt n hn
  obtain ⟨x, hx, k1, k2⟩ := isW_kind21 f g.ok _ h3
  have hA := around_good g.ok hx
  obtain ⟨hep, _⟩ := f.encl_pth g.ok 0 _ x hx (by omega)
  have hrr := rgt_rok _ f 0 _ (f.atw n).2 (Stands.whole g.ok) (by omega) hep.symm
  have hl : (f.atw n).1 < f.flat.length := hlt
  unfold placeS
  rw [if_neg (by rw [g.check]; simp), if_neg (by omega), hA, if_pos ⟨by unfold wAt; simp only [Int.toNat_natCast]; rw [hx]; exact dOf_true k1 k2, hrr.2 h2⟩, fo_flat g.ok]
  simp only [Int.toNat_natCast]
  rw [h1]
/-- each word of a tape -/
theorem seg21 {regs : Int} {f : Fo} (g : Good regs f) {r Z : List UInt64} (hr : (r.length : Int) = regs) (hZ : Z.length = f.unroll.length) {n : Nat} (hn : n < f.unroll.length) :
    ∃ (i : Nat) (x : OpD) (rs : List Int) (v : UInt64), atS regs f.flat (n : Int) = ((i : Int), rs, 0) ∧ f.flat[i]? = some x ∧ rs.length ≤ f.flat.length ∧ InR regs x ∧ (∀ q ∈ rs, -9223372036854775808 ≤ q ∧ q ≤ 9223372036854775807) ∧
      wasS regs f.flat (recT regs f.flat r Z) (i : Int) rs = (v, 0) ∧ (recT regs f.flat r Z)[n]? = some v ∧ (uptoS regs f.flat r (n : Int))[x.d.toNat]? = some v ∧ (uptoS regs f.flat r (n : Int)).length = r.length := by
  have hw : n < f.wr := by rw [← Fo.unroll_length]; exact hn
  obtain ⟨x, hx⟩ : ∃ x, f.unroll[n]? = some x := ⟨_, List.getElem?_eq_getElem hn⟩
  have hfx := atw_op f n hw
  rw [hx] at hfx
  have hin := g.inR x (List.mem_of_getElem? hx)
  obtain ⟨_, e2, _⟩ := rec_good g (t := Z) hr (by omega)
  have hu : uptoS regs f.flat r (n : Int) = runR (f.unroll.take n) r := by
    rw [uptoS_good g (by omega), startR_full (by omega)]
    unfold uptoL
    rw [if_neg (by omega), Int.toNat_natCast]
  have ht : (tpR f.unroll r Z)[n]? = some (getR (runR (f.unroll.take n) r) x.d) := by
    unfold tpR
    rw [List.getElem?_append_left (by rw [tapeR_length]; exact hn)]
    exact tapeR_get _ _ _ _ hx
  obtain ⟨⟨d1, d2⟩, _⟩ := hin
  refine ⟨(f.atw n).1, x, (f.atw n).2, getR (runR (f.unroll.take n) r) x.d, ?_, hfx, atw_len f n, g.inR x (List.mem_of_getElem? hx), fun q hq => ?_, ?_, ?_, ?_, ?_⟩
  · unfold atS
    rw [if_neg (by rw [g.check]; simp), fo_flat g.ok, if_pos ⟨by omega, by omega⟩]
    simp only [Int.toNat_natCast]
  · have h1 := atw_nonneg f n q hq
    have h2 := atw_le21 f n q hq
    have := g.few
    omega
  · unfold wasS
    rw [place21 g hw, unrS_good g, e2, if_neg (by simp), if_neg (by rw [tpR_length _ _ _ (by omega)]; omega)]
    show (getR (tpR f.unroll r Z) ((n : Nat) : Int), (0 : Int)) = _
    congr 1
    show ((tpR f.unroll r Z)[n]?).getD 0 = _
    rw [ht]; rfl
  · rw [e2]; exact ht
  · rw [hu]
    have hl : (runR (f.unroll.take n) r).length = r.length := runR_length _ _
    unfold getR
    rw [List.getElem?_eq_getElem (by omega)]
    rfl
  · rw [hu, runR_length]
set_option maxRecDepth 100000 in
set_option maxHeartbeats 12800000 in
theorem TapeSegments_calls (regs : Int) (a : Option Addr) (c : Nat) (l : List OpD) (ra : Option Addr) (rc : Nat) (r : List UInt64) (k : Int) (w : World) (h : At w a l) (hr : At w ra r) (hl : l.length ≤ 1000000) (hk1 : -9223372036854775808 ≤ k) (hk2 : k ≤ 9223372036854775807) :
    Calls Try.prog 10 #[.agg #[.int .i64 regs, .slice a l.length c], .slice ra r.length rc, .int .i64 k] w fun e w' => e = .returned (.bool true) ∧ Below w.heap.size w w' := by
  have hb0 := below_new12 w (.cells #[.int .i64 regs, .slice a l.length c] 24)
  have hX := Blk.new w 24 #[.int .i64 regs, .slice a l.length c]
  have h1 := h.belowN hb0
  have hr1 := hr.belowN hb0
  have HW := hide (SizeW_calls a c l _ h1 hl)
  have hwb : 0 ≤ sizeW l ∧ sizeW l ≤ 65536 := sizeW_bd21 l
  obtain ⟨wn, hwn⟩ : ∃ wn : Nat, sizeW l = wn := ⟨(sizeW l).toNat, by omega⟩
  obtain ⟨S, hS⟩ : ∃ S, sizeE l = S := ⟨_, rfl⟩
  rw [hwn, hS] at HW
  rw [hwn] at hwb
  have HWN := hide hwn
  obtain ⟨rn, hrn⟩ : ∃ rn, rn = r.length := ⟨_, rfl⟩
  rw [← hrn]
  have HRN := hide hrn
  clear hwn hS hrn
  by_cases hg0 : S = 0
  · subst hg0
    by_cases hw0 : wn = 0
    · subst hw0
      go_enter Try.func10, Try.ntmps10
      go_wp2_with (first
        | (go_at_call 13; go_must ((with_reducible refine (HW.out).mono ?_); rintro e w1 ⟨rfl, hC1⟩; have hz1 := hC1.size; obtain ⟨q0, q1, q2, q3⟩ := (hX.belowN hC1).c2))
        | (go_at_call 18; go_must ((with_reducible refine (goes21_calls _).mono ?_); rintro e w9 ⟨rfl, hb9⟩)))
      go_ret
      exact ⟨rfl, hb0.trans ((hC1.trans (hb9.mono hC1.size)).mono hb0.size)⟩
    · have bw : ((wn : Int) == 0) = false := by simpa using hw0
      by_cases hg1 : rn ≤ 100
      · cases hs : small13 regs l 60 with
        | false =>
          have HS := hide hs
          clear hs
          go_enter Try.func10, Try.ntmps10
          go_wp2_with (first
            | (go_at_call 13; go_must ((with_reducible refine (HW.out).mono ?_); rintro e w1 ⟨rfl, hC1⟩; have hz1 := hC1.size; obtain ⟨q0, q1, q2, q3⟩ := (hX.belowN hC1).c2))
            | (go_at_call 21; go_must ((with_reducible refine (Small13_calls regs a c l _ false HS.out _ (h1.belowN hC1) (by omega)).mono ?_); rintro e w2 ⟨rfl, hb2⟩; have hC2 := hC1.trans (hb2.mono hC1.size); have hsrc := hr1.belowN hC2))
            | (go_at_call 18; go_must ((with_reducible refine (goes21_calls _).mono ?_); rintro e w9 ⟨rfl, hb9⟩)))
          go_ret
          exact ⟨rfl, hb0.trans ((hC2.trans (hb9.mono hC2.size)).mono hb0.size)⟩
        | true =>
        have hsl := small_le21 hs
        have HS := hide hs
        obtain ⟨tn, htn⟩ : ∃ tn, tn = wn := ⟨_, rfl⟩
        subst htn
        have htn9 : tn ≤ 1000000 := by omega
        have htn0 : 0 < tn := by omega
        obtain ⟨Z, hZ⟩ : ∃ Z, Z = List.replicate tn (0 : UInt64) := ⟨_, rfl⟩
        have hZl : Z.length = tn := by rw [hZ, List.length_replicate]
        obtain ⟨E, hE⟩ : ∃ E, readyS regs l rn tn = E := ⟨_, rfl⟩
        obtain ⟨N, hN⟩ : ∃ N, recN regs l rn tn = N := ⟨_, rfl⟩
        obtain ⟨R', hR'⟩ : ∃ R', recR regs l r Z = R' := ⟨_, rfl⟩
        obtain ⟨T', hT'⟩ : ∃ T', recT regs l r Z = T' := ⟨_, rfl⟩
        obtain ⟨q, hq⟩ : ∃ q, k.tmod (tn : Int) = q := ⟨_, rfl⟩
        have hq1 : q < tn := by rw [← hq]; exact Int.tmod_lt_of_pos _ (by omega)
        have hq2 : -(tn : Int) < q := by rw [← hq]; have := Int.lt_tmod_of_pos k (b := (tn : Int)) (by omega); omega
        obtain ⟨n, hn⟩ : ∃ n : Nat, (q + tn).tmod (tn : Int) = n := ⟨((q + tn).tmod (tn : Int)).toNat, by have := Int.tmod_nonneg (tn : Int) (a := q + tn) (by omega); omega⟩
        have hnl : n < tn := by have := Int.tmod_lt_of_pos (q + tn) (b := (tn : Int)) (by omega); omega
        have HSEG : Hid (E = 0 → dimsS regs l r.length = 0 ∧ ∃ (i : Nat) (x : OpD) (rs : List Int) (v : UInt64), atS regs l (n : Int) = ((i : Int), rs, 0) ∧ l[i]? = some x ∧ rs.length ≤ l.length ∧ InR rn x ∧ (∀ q ∈ rs, -9223372036854775808 ≤ q ∧ q ≤ 9223372036854775807) ∧
            wasS regs l T' (i : Int) rs = (v, 0) ∧ T'[n]? = some v ∧ (uptoS regs l r (n : Int))[x.d.toNat]? = some v ∧ (uptoS regs l r (n : Int)).length = rn) := by
          show E = 0 → _
          intro hE0
          have e1 : readyS regs l r.length tn = 0 := by rw [← HRN.out, hE, hE0]
          obtain ⟨f, rfl, g, hn1, hu⟩ := ready_good e1
          have e2 := g.sizeW.1
          rw [HWN.out] at e2
          have hul : f.unroll.length = tn := by omega
          obtain ⟨i, x, rs, v, k1, k2, k2b, k3, k4, k5, k6, k7, k8⟩ := seg21 g hn1 (hZl.trans hul.symm) (n := n) (by omega)
          rw [hT'] at k5 k6
          exact ⟨dims_of_good g (by omega), i, x, rs, v, k1, k2, k2b, by rw [HRN.out, hn1]; exact k3, k4, k5, k6, k7, by rw [HRN.out]; exact k8⟩
        have hTl : T'.length = tn := by rw [← hT', recT_length, hZl]
        have HZ := hide hZ
        have HZL := hide hZl.symm
        have HE := hide hE
        have HN := hide hN
        have HR' := hide hR'
        have HT' := hide hT'
        have HTL := hide hTl.symm
        clear hs hE hN hR' hT' hTl hZ hZl hw0
        go_enter Try.func10, Try.ntmps10
        go_wp2_with (first
          | (go_at_call 13; go_must ((with_reducible refine (HW.out).mono ?_); rintro e w1 ⟨rfl, hC1⟩; have hz1 := hC1.size; obtain ⟨q0, q1, q2, q3⟩ := (hX.belowN hC1).c2))
          | (go_at_call 21; go_must ((with_reducible refine (Small13_calls regs a c l _ true HS.out _ (h1.belowN hC1) (by omega)).mono ?_); rintro e w2 ⟨rfl, hb2⟩; have hC2 := hC1.trans (hb2.mono hC1.size); have hsrc := hr1.belowN hC2)))
        have hz2w : w.heap.size + 1 ≤ w2.heap.size := by have := hC2.size; simp at this; omega
        have hOA : Own (w2.alloc (.cells #[] 37)).drew w2.heap.size 37 (some ⟨w2.heap.size, 0, none⟩) 0 ([] : List UInt64) := (Own.new w2 (Nat.le_refl _) 37 UInt64).drew
        have hOB : Own ((w2.alloc (.cells #[] 37)).alloc (.cells (zerosU tn) 37)).drew w2.heap.size 37 (some ⟨w2.heap.size, 0, none⟩) 0 ([] : List UInt64) := ((Own.new w2 (Nat.le_refl _) 37 UInt64).alloc _).drew
        have hOC : Own ((w2.alloc (.cells (zerosU tn) 37)).alloc (.cells #[] 37)).drew w2.heap.size 37 (some ⟨w2.heap.size + 1, 0, none⟩) 0 ([] : List UInt64) := by
          have := (Own.new (B := w2.heap.size) (w2.alloc (.cells (zerosU tn) 37)) (by simp) 37 UInt64).drew
          simp only [World.size_alloc] at this; exact this
        have hNA : Below w2.heap.size w2 (w2.alloc (.cells #[] 37)).drew := Below.drew (below_new12 w2 _)
        have hNB : Below w2.heap.size w2 ((w2.alloc (.cells #[] 37)).alloc (.cells (zerosU tn) 37)).drew := Below.drew (below2 w2 _ _)
        have hNC : Below w2.heap.size w2 ((w2.alloc (.cells (zerosU tn) 37)).alloc (.cells #[] 37)).drew := Below.drew (below2 w2 _ _)
        have hTB : Own ((w2.alloc (.cells #[] 37)).alloc (.cells (zerosU tn) 37)).drew w2.heap.size 37 (some ⟨w2.heap.size + 1, 0, none⟩) tn (List.replicate tn (0 : UInt64)) := by
          have := (ownZ (B := w2.heap.size) (w2.alloc (.cells #[] 37)) (by simp) tn (by omega)).drew
          simp only [World.size_alloc] at this; exact this
        have hTC : Own ((w2.alloc (.cells (zerosU tn) 37)).alloc (.cells #[] 37)).drew w2.heap.size 37 (some ⟨w2.heap.size, 0, none⟩) tn (List.replicate tn (0 : UInt64)) := ((ownZ (B := w2.heap.size) w2 (Nat.le_refl _) tn (by omega)).alloc _).drew
        have hmk := mkU tn ((tn : Int)) rfl (by omega)
        go_region_law (first
          | (refine step_pushAll tyU hOA (l2 := r) (hsrc.belowN hNA) rfl rfl rfl rfl rfl HRN.out (by simp <;> omega) (by omega) (by omega) ?_; intro a3 c3 w3 hown3 hg3 hcs3; have hfA := hg3; have hb3 := below_push hNA hOA hg3 (by simp <;> omega); have hz3 := hb3.size; rw [List.nil_append] at hown3; rw [Nat.zero_add])
          | (refine step_pushAll tyU hOB (l2 := r) (hsrc.belowN hNB) rfl rfl rfl rfl rfl HRN.out (by simp <;> omega) (by omega) (by omega) ?_; intro a3 c3 w3 hown3 hg3 hcs3; have hfB := hg3; have hb3 := below_push hNB hOB hg3 (by simp <;> omega); have hz3 := hb3.size; rw [List.nil_append] at hown3; rw [Nat.zero_add])
          | (refine step_pushAll tyU hOC (l2 := r) (hsrc.belowN hNC) rfl rfl rfl rfl rfl HRN.out (by simp <;> omega) (by omega) (by omega) ?_; intro a3 c3 w3 hown3 hg3 hcs3; have hfC := hg3; have hb3 := below_push hNC hOC hg3 (by simp <;> omega); have hz3 := hb3.size; rw [List.nil_append] at hown3; rw [Nat.zero_add]))
        all_goals
          first
            | (have hgd := hfA
               have hR := (hown3.alloc (.cells (zerosU tn) 37)).mono hz2w
               have hT := (ownZ (B := w2.heap.size) w3 hz3 tn (by omega)).mono hz2w
               have hC4 := hC2.trans ((hb3.trans ((below_new12 w3 (.cells (zerosU tn) 37)).mono hz3)).mono hC2.size)
               have hne3 : ∀ q, a3.map (·.block) = some q → q ≠ w3.heap.size := fun q e => by have := (hown3.blk q e).2; omega
               generalize hW4 : w3.alloc (.cells (zerosU tn) 37) = w4 at *
               generalize w3.heap.size = gt at *
               clear hW4 hfA hg3)
            | (have hgd := hfB
               have hR := hown3.mono hz2w
               have hT := (hTB.grown hg3 (.inr (by simp))).mono hz2w
               have hC4 := hC2.trans (hb3.mono hC2.size)
               have hne3 : ∀ q, a3.map (·.block) = some q → q ≠ w2.heap.size + 1 := fun q e => by
                 rcases hcs3 with h | ⟨g, h, h2⟩
                 · rw [h] at e; simp at e; omega
                 · rw [h] at e; simp at e h2; omega
               generalize w2.heap.size + 1 = gt at *
               obtain ⟨w4, hW4⟩ : ∃ w4, w4 = w3 := ⟨_, rfl⟩
               rw [← hW4] at hR hT hC4 ⊢
               clear hW4 hfB hg3)
            | (have hgd := hfC
               have hR := hown3.mono hz2w
               have hT := (hTC.grown hg3 (.inr (by simp))).mono hz2w
               have hC4 := hC2.trans (hb3.mono hC2.size)
               have hne3 : ∀ q, a3.map (·.block) = some q → q ≠ w2.heap.size := fun q e => by
                 rcases hcs3 with h | ⟨g, h, h2⟩
                 · rw [h] at e; simp at e; omega
                 · rw [h] at e; simp at e h2; omega
               obtain ⟨gt, hgt⟩ : ∃ gt, gt = w2.heap.size := ⟨_, rfl⟩
               rw [← hgt] at hT hne3 ⊢
               obtain ⟨w4, hW4⟩ : ∃ w4, w4 = w3 := ⟨_, rfl⟩
               rw [← hW4] at hR hT hC4 ⊢
               clear hW4 hfC hg3 hgt)
          clear hOA hOB hOC hNA hNB hNC hTB hTC hmk hown3 hb3 hz3 hcs3 hgd
          have hne4 : ∀ q, a3.map (·.block) = some q → (some (⟨gt, 0, none⟩ : Addr)).map (·.block) ≠ some q := fun q e h => hne3 q e (by simp at h; exact h.symm)
          have hz4 := hC4.size
          simp only [World.size_alloc] at hz4
        all_goals
          rw [← HZ.out] at hT
          obtain ⟨u0, u1, u2, u3⟩ := (hX.belowN hC4).c2
          by_cases hE0 : E = 0
          · obtain ⟨hdim, i, x, rs, v, k1, k2, k2b, k3, k4, k5, k6, k7, k8⟩ := HSEG.out hE0
            subst hE0
            obtain ⟨X, hXX⟩ : ∃ X, uptoS regs l r (n : Int) = X := ⟨_, rfl⟩
            rw [hXX] at k7 k8
            have HK1 := hide k1
            have HK2 := hide k2
            have HK4 := hide k4
            have HK5 := hide k5
            have HK6 := hide k6
            have HK7 := hide k7
            have HK8 := hide k8.symm
            have HDIM := hide hdim
            have HXX := hide hXX
            obtain ⟨⟨d1, d2⟩, _, _⟩ := k3
            have hil : i < l.length := (List.getElem?_eq_some_iff.1 k2).1
            clear k1 k2 k4 k5 k6 k7 k8 hdim hXX HSEG
            go_wp2_with (first
              | (go_at_call 25; go_must ((with_reducible refine (RecordN regs a c _ l rfl a3 c3 rn r HRN.out (w.heap.size + 1) (some ⟨gt, 0, none⟩) tn tn Z HZL.out (w.heap.size + 1) _ _ _ _ HN.out HE.out HR'.out HT'.out w4 (h1.belowN hC4) (by omega) hR hT (by omega) (by omega) hne4).mono ?_); rintro e w5 ⟨rfl, hR5, hT5, hTu5⟩; have hC5 := hTu5.below hC4 (fun q hq => by rcases List.mem_append.1 hq with hq | hq <;> first | (have h1 := (hR.blk q (blkL_mem.1 hq)).1; simp; omega) | (have h1 := (hT.blk q (blkL_mem.1 hq)).1; simp; omega)) hC4.size; have hz5 := hTu5.size; obtain ⟨p0, p1, p2, p3⟩ := (hX.belowN hC5).c2; have t5 := (hX.belowN hC5).lt))
              | (go_at_call 31; go_must ((with_reducible refine (At_calls regs a c l (n : Int) (i : Int) rs rs.length rfl 0 HK1.out w5 (h1.belowN hC5) (by omega)).mono ?_); rintro e w6 ⟨a6, c6, rfl, hown6, hb6⟩; have hC6 := hC5.trans (hb6.mono hC5.size); have hT6 := hT5.belowN hb6; obtain ⟨o0, o1, o2, o3⟩ := (hX.belowN hC6).c2))
              | (go_at_call 19; go_must ((with_reducible refine (WasN regs a c _ l rfl _ tn _ T' HTL.out (i : Int) a6 rs.length c6 rs rfl HK4.out v 0 HK5.out w6 (h1.belowN hC6) (by omega) hT6.at_ (by omega) hown6.at_ (by omega)).mono ?_); rintro e w7 ⟨rfl, hb7⟩; have hC7 := hC6.trans (hb7.mono hC6.size); have hT7 := hT6.belowN hb7; obtain ⟨n0, n1, n2, n3⟩ := (hX.belowN hC7).c2))
              | (go_at_call 32; go_must ((with_reducible refine (UptoN regs a c _ l ra rc rn r (n : Int) (n : Int) (by omega) w7 X 0 rfl HRN.out HXX.out HDIM.out (h1.belowN hC7) (by omega) (hr1.belowN hC7) (by omega)).mono ?_); rw [← HK8.out]; rintro e w8 ⟨a8, c8, rfl, hown8, hb8⟩; have hC8 := hC7.trans (hb8.mono hC7.size); have hT8 := hT7.belowN hb8; obtain ⟨m0, m1, m2, m3⟩ := (hX.belowN hC8).c2; obtain ⟨b1, off1, hba, x0, x1, x2, x3, x4⟩ := getOp_eq (h1.belowN hC8) (Below.refl _ _) HK2.out; subst hba; obtain ⟨gx, hgx, hgx1, hgx2⟩ := hown8.some_ (fun e => by have h1 := HK7.out; rw [e] at h1; simp at h1); subst hgx; have y0 : w8.cell? ⟨gx, x.d.toNat, none⟩ = some (.int .u64 (v.toNat : Int)) := (by simpa [Flat.n] using hown8.cellAt HK7.out (f := 0) rfl); have y1 : w8.cell? ⟨gt, n, none⟩ = some (.int .u64 (v.toNat : Int)) := (by simpa [Flat.n] using hT8.cellAt HK6.out (f := 0) rfl)))
              | (go_at_call 18; go_must ((with_reducible refine (goes21_calls _).mono ?_); rintro e w9 ⟨rfl, hb9⟩)))
            go_ret
            exact ⟨rfl, hb0.trans ((hC8.trans (hb9.mono hC8.size)).mono hb0.size)⟩
          · have e1 : (E == 0) = false := by simpa using hE0
            have e2 : (E != 0) = true := by simpa using hE0
            clear hE0 HSEG
            go_wp2_with (first
              | (go_at_call 25; go_must ((with_reducible refine (RecordN regs a c _ l rfl a3 c3 rn r HRN.out (w.heap.size + 1) (some ⟨gt, 0, none⟩) tn tn Z HZL.out (w.heap.size + 1) _ _ _ _ HN.out HE.out HR'.out HT'.out w4 (h1.belowN hC4) (by omega) hR hT (by omega) (by omega) hne4).mono ?_); rintro e w5 ⟨rfl, hR5, hT5, hTu5⟩; have hC5 := hTu5.below hC4 (fun q hq => by rcases List.mem_append.1 hq with hq | hq <;> first | (have h1 := (hR.blk q (blkL_mem.1 hq)).1; simp; omega) | (have h1 := (hT.blk q (blkL_mem.1 hq)).1; simp; omega)) hC4.size; have hz5 := hTu5.size; obtain ⟨p0, p1, p2, p3⟩ := (hX.belowN hC5).c2; have t5 := (hX.belowN hC5).lt))
              | (go_at_call 18; go_must ((with_reducible refine (goes21_calls _).mono ?_); rintro e w9 ⟨rfl, hb9⟩)))
            go_ret
            exact ⟨rfl, hb0.trans ((hC5.trans (hb9.mono hC5.size)).mono hb0.size)⟩
      · go_enter Try.func10, Try.ntmps10
        go_wp2_with (first
          | (go_at_call 13; go_must ((with_reducible refine (HW.out).mono ?_); rintro e w1 ⟨rfl, hC1⟩; have hz1 := hC1.size; obtain ⟨q0, q1, q2, q3⟩ := (hX.belowN hC1).c2))
          | (go_at_call 18; go_must ((with_reducible refine (goes21_calls _).mono ?_); rintro e w9 ⟨rfl, hb9⟩)))
        go_ret
        exact ⟨rfl, hb0.trans ((hC1.trans (hb9.mono hC1.size)).mono hb0.size)⟩
  · have e1 : (S == 0) = false := by simpa using hg0
    have e2 : (S != 0) = true := by simpa using hg0
    clear hg0
    go_enter Try.func10, Try.ntmps10
    go_wp2_with (first
      | (go_at_call 13; go_must ((with_reducible refine (HW.out).mono ?_); rintro e w1 ⟨rfl, hC1⟩; have hz1 := hC1.size; obtain ⟨q0, q1, q2, q3⟩ := (hX.belowN hC1).c2))
      | (go_at_call 18; go_must ((with_reducible refine (goes21_calls _).mono ?_); rintro e w9 ⟨rfl, hb9⟩)))
    go_ret
    exact ⟨rfl, hb0.trans ((hC1.trans (hb9.mono hC1.size)).mono hb0.size)⟩
end Go.Proofs.Ytjfpnbnkfcgjcaa
