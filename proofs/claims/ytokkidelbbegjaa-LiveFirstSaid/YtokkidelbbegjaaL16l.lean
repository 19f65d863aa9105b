/- Chapter 16: LiveFirst. -/
import Derived.Test.YtokkidelbbegjaaL16k
namespace Go.Proofs.Ytokkidelbbegjaa
set_option linter.unusedVariables false
set_option linter.unusedSimpArgs false
open Go.RowKit Go.Shelf
theorem getR_startR (n : Nat) (r : List UInt64) (h : r.length ≤ n) (j : Int) : getR (startR n r) j = getR r j := by
  unfold startR getR
  by_cases hj : j.toNat < r.length
  · rw [List.getElem?_append_left hj]
  · rw [List.getElem?_append_right (by omega), List.getElem?_replicate, List.getElem?_eq_none (by omega : r.length ≤ j.toNat)]
    split <;> rfl
theorem mem_trues (w : List Bool) (j : Int) (hj : 0 ≤ j) (h : getB w j = true) : j ∈ trues w := by
  unfold trues
  refine List.mem_map.2 ⟨j.toNat, ?_, by omega⟩
  unfold getB at h
  have hl : j.toNat < w.length := Classical.byContradiction fun hn => by rw [List.getElem?_eq_none (by omega)] at h; cases h
  exact List.mem_filter.2 ⟨List.mem_range.2 hl, h⟩
theorem trues_mem (w : List Bool) (j : Int) (h : j ∈ trues w) : 0 ≤ j ∧ j.toNat < w.length := by
  unfold trues at h
  obtain ⟨i, hi, rfl⟩ := List.mem_map.1 h
  have := List.mem_range.1 (List.mem_filter.1 hi).1
  exact ⟨by omega, by simpa using this⟩
theorem look_want_length (f : Fo) (regs : Int) (outs : List Int) : (f.look regs outs).want.length = regs.toNat := by unfold Fo.look; rw [(lvRun_lengths _ _).1]; simp [lv0, markL_length]
theorem live_agree {regs : Int} {f : Fo} (g : Good regs f) {outs : List Int} (hB : outsB regs outs = true) {r M : List UInt64} (hr : r.length ≤ regs.toNat) (hM : M.length = regs.toNat) (h : ∀ j ∈ trues (f.look regs outs).want, getR M j = getR r j) :
    ∀ k ∈ outs, getR (runR f.unroll (startR regs.toNat r)) k = getR (runR f.unroll (startR regs.toNat M)) k := by
  intro k hk
  have h1 := g.r1
  have hw : (((lv0 regs.toNat f.size outs).want.length : Nat) : Int) = regs := by simp [lv0, markL_length]; omega
  have b1 : ∀ i ∈ outs, 0 ≤ i ∧ i.toNat < (List.replicate regs.toNat false).length := fun i hi => by have := outsB_in hB i hi; rw [List.length_replicate]; omega
  have hf : f.unroll.foldr wantS (lv0 regs.toNat f.size outs).want = (f.look regs outs).want := by unfold Fo.look; rw [lvRun_want, f.zl_ops]
  refine agree_run f.unroll g.inR hw (startR regs.toNat r) (startR regs.toNat M) (by rw [startR_length _ _ hr]; omega) (by rw [startR_length _ _ (by omega)]; omega) ?_ k (b1 k hk).1 ?_
  · rw [hf]
    intro j hj hjw
    rw [getR_startR _ _ hr, getR_startR _ _ (by omega)]
    exact (h j (mem_trues _ j hj hjw)).symm
  · show getB (markL (List.replicate regs.toNat false) outs) k = true
    rw [getB_mark _ _ _ b1 (b1 k hk).1]
    simp [hk]
theorem first_step {Fi : List Int} {nr k : Nat} {x : Int} {M r : List UInt64} (hx : Fi[k]? = some x) (hF : ∀ j ∈ Fi, 0 ≤ j ∧ j.toNat < nr) (hM : M.length = nr) (h : ∀ j ∈ Fi.take k, getR M j = getR r j) : ∀ j ∈ Fi.take (k + 1), getR (M.set x.toNat (getR r x)) j = getR r j := by
  intro j hj
  have hx0 := hF x (List.mem_of_getElem? hx)
  have hj0 := hF j (List.mem_of_mem_take hj)
  rw [getR_set' _ _ _ _ (by omega)]
  by_cases e : x.toNat = j.toNat
  · rw [if_pos e, show x = j by omega]
  · rw [if_neg e]
    rw [List.take_add_one, hx] at hj
    rcases List.mem_append.1 hj with hj | hj
    · exact h j hj
    · simp at hj; exact absurd (by rw [hj]) e
theorem live_ok {regs : Int} {l : List OpD} {outs : List Int} (h : liveE regs l outs = 0) : ∃ f : Fo, l = f.flat ∧ Good regs f ∧ outsB regs outs = true := by
  have hc : checkS regs l = 0 := Classical.byContradiction fun hc => by
    unfold liveE at h
    rw [if_pos hc] at h
    exact hc h
  obtain ⟨f, rfl, g⟩ := good_of_check hc
  refine ⟨f, rfl, g, ?_⟩
  unfold liveE at h
  rw [if_neg (by rw [hc]; simp)] at h
  split at h
  · assumption
  · cases h
set_option maxRecDepth 100000 in
set_option maxHeartbeats 6400000 in
theorem LiveFirst_calls (regs : Int) (a : Option Addr) (c : Nat) (l : List OpD) (oa : Option Addr) (oc : Nat) (outs : List Int) (ra : Option Addr) (rc : Nat) (r : List UInt64) (ta : Option Addr) (tc : Nat) (other : List UInt64) (w : World) (h : At w a l) (ho : At w oa outs) (hr : At w ra r) (ht : At w ta other) :
    Calls Try.prog 8 #[.agg #[.int .i64 regs, .slice a l.length c], .slice oa outs.length oc, .slice ra r.length rc, .slice ta other.length tc] w fun e w' => e = .returned (.bool true) ∧ Below w.heap.size w w' := by
  have hb0 := below_new12 w (.cells #[.int .i64 regs, .slice a l.length c] 24)
  have hX := Blk.new w 24 #[.int .i64 regs, .slice a l.length c]
  have h1 := h.belowN hb0
  have ho1 := ho.belowN hb0
  have hr1 := hr.belowN hb0
  have ht1 := ht.belowN hb0
  obtain ⟨n, hn⟩ : ∃ n, n = outs.length := ⟨_, rfl⟩
  have HN := hide hn
  obtain ⟨rn, hrn⟩ : ∃ rn, rn = r.length := ⟨_, rfl⟩
  have HRN := hide hrn
  obtain ⟨tn, htn⟩ : ∃ tn, tn = other.length := ⟨_, rfl⟩
  have HTN := hide htn
  rw [← hn, ← hrn, ← htn]
  by_cases hg : n ≤ 100
  case neg =>
    go_enter Try.func8, Try.ntmps8
    go_wp2_with (go_at_call 19; go_must ((with_reducible refine (goes16_calls _).mono ?_); rintro e w18 ⟨rfl, hbel18⟩))
    go_ret
    exact ⟨rfl, hb0.trans (hbel18.mono hb0.size)⟩
  cases hs : small13 regs l 100 with
  | false =>
    have HS := hide hs
    clear hs hn hrn htn
    go_enter Try.func8, Try.ntmps8
    go_wp2_with (first
      | (go_at_call 18; (with_reducible refine (Small13_calls regs a c l _ false HS.out _ h1 (by omega)).mono ?_); rintro e w1 ⟨rfl, hb1⟩; have hB1 := hb0.trans (hb1.mono hb0.size); have hz1 := hB1.size)
      | (go_at_call 19; (with_reducible refine (goes16_calls _).mono ?_); rintro e w8 ⟨rfl, hbel8⟩))
    go_ret
    first
      | exact ⟨rfl, hB1.trans (hbel8.mono hz1)⟩
      | exact ⟨rfl, hb0.trans (hbel8.mono hb0.size)⟩
  | true =>
    have hsl := small_le16 hs
    have HS := hide hs
    by_cases hg2 : rn ≤ 100
    case neg =>
      clear hs hn hrn htn
      go_enter Try.func8, Try.ntmps8
      go_wp2_with (first
        | (go_at_call 18; (with_reducible refine (Small13_calls regs a c l _ true HS.out _ h1 (by omega)).mono ?_); rintro e w1 ⟨rfl, hb1⟩; have hB1 := hb0.trans (hb1.mono hb0.size); have hz1 := hB1.size)
        | (go_at_call 19; (with_reducible refine (goes16_calls _).mono ?_); rintro e w8 ⟨rfl, hbel8⟩))
      go_ret
      exact ⟨rfl, hB1.trans (hbel8.mono hz1)⟩
    by_cases hg3 : tn ≤ 100
    case neg =>
      clear hs hn hrn htn
      go_enter Try.func8, Try.ntmps8
      go_wp2_with (first
        | (go_at_call 18; (with_reducible refine (Small13_calls regs a c l _ true HS.out _ h1 (by omega)).mono ?_); rintro e w1 ⟨rfl, hb1⟩; have hB1 := hb0.trans (hb1.mono hb0.size); have hz1 := hB1.size)
        | (go_at_call 19; (with_reducible refine (goes16_calls _).mono ?_); rintro e w8 ⟨rfl, hbel8⟩))
      go_ret
      exact ⟨rfl, hB1.trans (hbel8.mono hz1)⟩
    by_cases hE0 : liveE regs l outs = 0
    case neg =>
      obtain ⟨e1, e2, e3⟩ := live_bad hE0
      have HE2 := hide e2
      obtain ⟨E, hE⟩ : ∃ E, liveE regs l outs = E := ⟨_, rfl⟩
      rw [hE] at hE0
      have HE := hide hE
      have d0 : (E != 0) = true := by simpa using hE0
      clear hs hn hrn htn e1 e2 e3 hE hE0
      go_enter Try.func8, Try.ntmps8
      go_wp2_with (first
        | (go_at_call 18; go_must ((with_reducible refine (Small13_calls regs a c l _ true HS.out _ h1 (by omega)).mono ?_); rintro e w1 ⟨rfl, hb1⟩; have hB1 := hb0.trans (hb1.mono hb0.size); have hz1 := hB1.size; have hX1 := hX.belowN hb1; have h2 := h1.belowN hb1; have ho2 := ho1.belowN hb1; obtain ⟨p0, p1, p2, p3⟩ := hX1.c2))
        | (go_at_call 22; go_must ((with_reducible refine (FirstN regs a c _ l rfl oa oc n outs HN.out _ _ [] _ E _ 0 rfl rfl rfl HE2.out rfl HE.out h2 (by omega) ho2 (by omega)).mono ?_); rintro e w2 ⟨⟨a2, c2, rfl, hown2⟩, hb2⟩; have hB2 := hB1.trans (hb2.mono hz1); have hz2 := hB2.size))
        | (go_at_call 19; (with_reducible refine (goes16_calls _).mono ?_); rintro e w8 ⟨rfl, hbel8⟩))
      go_ret
      exact ⟨rfl, hB2.trans (hbel8.mono hz2)⟩
    obtain ⟨f, rfl, g, hOB⟩ := live_ok hE0
    obtain ⟨nr, rfl⟩ : ∃ nr : Nat, regs = nr := ⟨regs.toNat, by have := g.r1; omega⟩
    have hr64 : nr ≤ 64 := by have := g.r2; omega
    obtain ⟨k0, k1, k2, k3⟩ := live_good g hOB
    obtain ⟨Fi, hFi⟩ : ∃ Fi, liveF nr f.flat outs = Fi := ⟨_, rfl⟩
    obtain ⟨fn, hfn⟩ : ∃ fn, fn = Fi.length := ⟨_, rfl⟩
    have hfn64 : fn ≤ 64 := by rw [hfn, ← hFi]; exact (live_sizes _ _ _).2.1
    have hFI : ∀ j ∈ Fi, 0 ≤ j ∧ j.toNat < nr := by
      rw [← hFi, k2]
      intro j hj
      have := trues_mem _ j hj
      rwa [look_want_length] at this
    have HFI := hide hFI
    have HK2 := hide k2
    have HF := hide hFi
    have HFN := hide hfn
    have HE := hide hE0
    have HG := hide g
    have HOB := hide hOB
    have hfl : f.flat.length ≤ 100 := by omega
    clear hs hn hrn htn hE0 g hOB k0 k1 k2 k3 hFi hfn hFI
    by_cases hrr : rn ≤ nr
    case neg =>
      go_enter Try.func8, Try.ntmps8
      go_wp2_with (first
        | (go_at_call 18; go_must ((with_reducible refine (Small13_calls _ a c _ _ true HS.out _ h1 (by omega)).mono ?_); rintro e w1 ⟨rfl, hb1⟩; have hB1 := hb0.trans (hb1.mono hb0.size); have hz1 := hB1.size; have hX1 := hX.belowN hb1; have h2 := h1.belowN hb1; have ho2 := ho1.belowN hb1; obtain ⟨p0, p1, p2, p3⟩ := hX1.c2))
        | (go_at_call 22; go_must ((with_reducible refine (FirstN _ a c _ _ rfl oa oc n outs HN.out _ _ Fi _ 0 _ fn rfl HFN.out rfl HF.out rfl HE.out h2 (by omega) ho2 (by omega)).mono ?_); rintro e w2 ⟨⟨a2, c2, rfl, hown2⟩, hb2⟩; have hB2 := hB1.trans (hb2.mono hz1); have hz2 := hB2.size; have hX2 := hX1.belowN hb2; obtain ⟨q0, q1, q2, q3⟩ := hX2.c2))
        | (go_at_call 19; (with_reducible refine (goes16_calls _).mono ?_); rintro e w8 ⟨rfl, hbel8⟩))
      go_ret
      exact ⟨rfl, hB2.trans (hbel8.mono hz2)⟩
    go_enter Try.func8, Try.ntmps8
    go_wp2_with (first
      | (go_at_call 18; go_must ((with_reducible refine (Small13_calls _ a c _ _ true HS.out _ h1 (by omega)).mono ?_); rintro e w1 ⟨rfl, hb1⟩; have hB1 := hb0.trans (hb1.mono hb0.size); have hz1 := hB1.size; have hX1 := hX.belowN hb1; have h2 := h1.belowN hb1; have ho2 := ho1.belowN hb1; have hr2 := hr1.belowN hb1; have ht2 := ht1.belowN hb1; obtain ⟨p0, p1, p2, p3⟩ := hX1.c2))
      | (go_at_call 22; go_must ((with_reducible refine (FirstN _ a c _ _ rfl oa oc n outs HN.out _ _ Fi _ 0 _ fn rfl HFN.out rfl HF.out rfl HE.out h2 (by omega) ho2 (by omega)).mono ?_); rintro e w2 ⟨⟨a2, c2, rfl, hown2⟩, hb2⟩; have hB2 := hB1.trans (hb2.mono hz1); have hz2 := hB2.size; have hX2 := hX1.belowN hb2; have h3 := h2.belowN hb2; have ho3 := ho2.belowN hb2; have hr3 := hr2.belowN hb2; have ht3 := ht2.belowN hb2; obtain ⟨q0, q1, q2, q3⟩ := hX2.c2))
      | (at_make; go_must (refine wpList_mk tyU0 (B := w.heap.size) (n := nr) rfl rfl rfl rfl rfl rfl hz2 (by omega) ?_; intro w3 hown3 hg3; have hb3 := below_of_grown hg3)))
    have hX4 := hX2.belowN hb3
    have hxl := hX2.lt
    have h4 := h3.belowN hb3
    have ho4 := ho3.belowN hb3
    have hr4 := hr3.belowN hb3
    have ht4 := ht3.belowN hb3
    have hF4 := hown2.at_.belowN hb3
    have hB4 := hB2.trans (hb3.mono hz2)
    have hz4 := hB4.size
    have HF2 := hide hown2.blk
    have hgx : w2.heap.size < w3.heap.size := (hown3.blk _ rfl).2
    have hmf : ∀ {α : Type} [Flat α] {W W' : World} {a : Option Addr} {l : List α}, At w a l → At W a l → Turned [w2.heap.size] W W' → At W' a l := fun h0 h hT => h.turned hT (fun hne g hg e => by obtain ⟨bq, oq, e', hq⟩ := h0.lt hne; rw [e'] at e; simp at hg; have e2 : bq = g := (by simpa using e); omega)
    clear hX2 h3 ho3 hr3 ht3 hown2 hg3 p0 p1 p2 p3 q0 q1 q2 q3 hX1 h2 ho2 hr2 ht2
    go_loopw [12] (fun iv wr => ∃ (k : Nat) (M : List UInt64), iv = .int .i64 k ∧ k ≤ nr ∧ Hid (M.length = nr) ∧ Own wr w.heap.size 59 (some ⟨w2.heap.size, 0, none⟩) nr M ∧ Turned [w2.heap.size] w3 wr) (fun iv _ => nr - (intOf iv).toNat)
    case atStart => exact ⟨0, _, rfl, by omega, by simp [Hid], hown3, Turned.refl _ _⟩
    case round =>
      obtain ⟨k, M, rfl, hk, hM, hown, hT⟩ := hrel
      have hX5 : Blk wr w.heap.size 24 #[.int .i64 nr, .slice a f.flat.length c] := (hT.block _ hX4.lt (by simp; omega)).trans hX4
      obtain ⟨p0, p1, p2, p3⟩ := hX5.c2
      by_cases hkn : k < nr
      · obtain ⟨v, hv⟩ : ∃ v, M[k]? = some v := ⟨_, List.getElem?_eq_getElem (by rw [hM.out]; exact hkn)⟩
        have g0 : wr.cell? ⟨w2.heap.size, k, none⟩ = some (.int .u64 (v.toNat : Int)) := by simpa [Flat.n] using hown.cellAt hv (f := 0) rfl
        have g1 := hown.frozen k
        clear hv
        by_cases hkt : k < tn
        · obtain ⟨b1, off1, x, hba, hx, c0⟩ := (hmf ht ht4 hT).getU (Below.refl _ _) (by rw [← HTN.out]; exact hkt)
          subst hba
          have hown2 := hown.set1 k x _ rfl
          go_wp2
          go_roundw
          case rel => exact ⟨k + 1, M.set k x, by go_num, by omega, by show _ = _; rw [List.length_set]; exact hM.out, hown2, hT.trans (Turned.ofGrown (F := [w2.heap.size]) (grown_setCell _ w2.heap.size _ _) (fun q hq => .inl (by injection hq with hq; simp [hq]))) (fun b hb => .inl hb)⟩
          case measure => simp [intOf]; omega
        · go_wp2
          go_roundw
          case rel => exact ⟨k + 1, M, by go_num, by omega, hM.out, hown, hT⟩
          case measure => simp [intOf]; omega
      · go_wp2
        obtain ⟨wo, rfl⟩ : ∃ wo : World, wo = wr := ⟨_, rfl⟩
        go_loopw [13, 14] (fun iv _ wr => ∃ (k : Nat) (M : List UInt64), iv = .int .i64 k ∧ k ≤ fn ∧ Hid (M.length = nr) ∧ Hid (∀ j ∈ Fi.take k, getR M j = getR r j) ∧ Own wr w.heap.size 59 (some ⟨w2.heap.size, 0, none⟩) nr M ∧ Turned [w2.heap.size] w3 wr) (fun iv _ _ => fn - (intOf iv).toNat)
        case atStart => exact ⟨0, M, rfl, by omega, hM.out, fun j hj => by simp at hj, hown, hT⟩
        case round =>
          clear hX5 p0 p1 p2 p3
          obtain ⟨j, M', rfl, hj, hM', hMJ, hown', hT'⟩ := hrel
          have hX5 : Blk wr w.heap.size 24 #[.int .i64 nr, .slice a f.flat.length c] := (hT'.block _ hX4.lt (by simp; omega)).trans hX4
          obtain ⟨p0, p1, p2, p3⟩ := hX5.c2
          by_cases hjn : j < fn
          · have hF5 : At wr a2 Fi := hF4.turned hT' (fun hne g hg e => by have := (HF2.out _ e).2; simp at hg; omega)
            obtain ⟨b1, off1, x, hba, hx, c0⟩ := hF5.getI (Below.refl _ _) (by rw [← HFN.out]; exact hjn)
            subst hba
            obtain ⟨x0, x1⟩ := HFI.out x (List.mem_of_getElem? hx.out)
            have HST := hide (first_step hx.out HFI.out hM'.out hMJ.out)
            obtain ⟨v, hv⟩ : ∃ v, M'[x.toNat]? = some v := ⟨_, List.getElem?_eq_getElem (by rw [hM'.out]; exact x1)⟩
            have g0 : wr.cell? ⟨w2.heap.size, x.toNat, none⟩ = some (.int .u64 (v.toNat : Int)) := by simpa [Flat.n] using hown'.cellAt hv (f := 0) rfl
            have g1 := hown'.frozen x.toNat
            have hxn : x < (nr : Int) := by omega
            have hgl := (hown'.blk _ rfl).2
            clear hv
            rcases Int.lt_or_le x rn with hxr | hxr
            · have hTs : Turned [w2.heap.size] w3 (wr.setCell ⟨w2.heap.size, x.toNat, none⟩ (.int .u64 0)) := hT'.trans (Turned.ofGrown (F := [w2.heap.size]) (grown_setCell _ w2.heap.size _ _) (fun q hq => .inl (by injection hq with hq; simp [hq]))) (fun b hb => .inl hb)
              obtain ⟨b3, off3, y, hba, hy, d0⟩ := (hmf hr hr4 hTs).getU (Below.refl _ _) (by rw [← HRN.out]; omega : x.toNat < r.length)
              subst hba
              have hown2 := (hown'.set1 x.toNat (0 : UInt64) _ rfl).set1 x.toNat y _ rfl
              have HY := hide (show (M'.set x.toNat 0).set x.toNat y = M'.set x.toNat (getR r x) by rw [List.set_set]; unfold getR; rw [hy.out]; rfl)
              rw [HY.out] at hown2
              have g2 := hown2.frozen x.toNat
              have g3 : (wr.setCell ⟨w2.heap.size, x.toNat, none⟩ (.int .u64 0)).cell? ⟨w2.heap.size, x.toNat, none⟩ = some (.int .u64 0) := by
                have hq := (hown'.set1 x.toNat (0 : UInt64) (.int .u64 0) rfl).cellAt (i := x.toNat) (x := (0 : UInt64)) (by rw [List.getElem?_set_self (by rw [hM'.out]; exact x1)]) (f := 0) rfl
                simpa [Flat.n] using hq
              have HTS := hide hTs
              clear hTs
              go_wp2
              go_roundw
              case rel => exact ⟨j + 1, _, by go_num, by omega, by show (M'.set x.toNat (getR r x)).length = _; rw [List.length_set]; exact hM'.out, HST.out, hown2, HTS.out.trans (Turned.ofGrown (F := [w2.heap.size]) (grown_setCell _ w2.heap.size _ _) (fun q hq => .inl (by injection hq with hq; simp [hq]))) (fun b hb => .inl hb)⟩
              case measure => simp [intOf]; omega
            · have hown2 := (hown'.set1 x.toNat (0 : UInt64) _ rfl)
              have HY := hide (show M'.set x.toNat 0 = M'.set x.toNat (getR r x) by unfold getR; rw [List.getElem?_eq_none (by rw [← HRN.out]; omega)]; rfl)
              rw [HY.out] at hown2
              go_wp2
              go_roundw
              case rel => exact ⟨j + 1, _, by go_num, by omega, by show (M'.set x.toNat (getR r x)).length = _; rw [List.length_set]; exact hM'.out, HST.out, hown2, hT'.trans (Turned.ofGrown (F := [w2.heap.size]) (grown_setCell _ w2.heap.size _ _) (fun q hq => .inl (by injection hq with hq; simp [hq]))) (fun b hb => .inl hb)⟩
              case measure => simp [intOf]; omega
          · have hjf : j = fn := by omega
            have hMF : ∀ k ∈ outs, getR (runR f.unroll (startR nr r)) k = getR (runR f.unroll (startR nr M')) k := by
              have := live_agree HG.out HOB.out (r := r) (M := M') (by have := HRN.out; omega) (by have := hM'.out; omega) (by
                have h9 := hMJ.out
                rw [hjf, HFN.out, List.take_length] at h9
                rwa [← HF.out, HK2.out] at h9)
              exact this
            have HMF := hide hMF
            have HOU := hide (outsB_in HOB.out)
            have hd1 : dimsS nr f.flat r.length = 0 := dims_of_good HG.out (by have := HRN.out; omega)
            have hd2 : dimsS nr f.flat M'.length = 0 := dims_of_good HG.out (by have := hM'.out; omega)
            have hu1 : uptoS nr f.flat r (-1) = runR f.unroll (startR nr r) := by rw [uptoS_good HG.out (by have := HRN.out; omega)]; unfold uptoL; rw [if_pos (by omega)]; rfl
            have hu2 : uptoS nr f.flat M' (-1) = runR f.unroll (startR nr M') := by rw [uptoS_good HG.out (by have := hM'.out; omega)]; unfold uptoL; rw [if_pos (by omega)]; rfl
            have hl1 : (runR f.unroll (startR nr r)).length = nr := by rw [runR_length, startR_length _ _ (by have := HRN.out; omega)]
            have hl2 : (runR f.unroll (startR nr M')).length = nr := by rw [runR_length, startR_length _ _ (by have := hM'.out; omega)]
            obtain ⟨A, hA⟩ : ∃ A, runR f.unroll (startR nr r) = A := ⟨_, rfl⟩
            obtain ⟨B, hB⟩ : ∃ B, runR f.unroll (startR nr M') = B := ⟨_, rfl⟩
            rw [hA] at hl1 hu1 HMF
            rw [hB] at hl2 hu2 HMF
            have HD1 := hide hd1
            have HD2 := hide hd2
            have HU1 := hide hu1
            have HU2 := hide hu2
            have HL1 := hide hl1
            have HL2 := hide hl2
            have hA5 := hmf h h4 hT'
            have hr5 := hmf hr hr4 hT'
            have ho5 := hmf ho ho4 hT'
            have hm5 := hown'.at_
            have hB5 : Below w.heap.size w wr := Turned.below hB4 hT' (by simp; omega) (by omega)
            have hz5 := hB5.size
            have HML := hide hM'.out.symm
            clear hMF hd1 hd2 hu1 hu2 hl1 hl2 hA hB hjf
            go_wp2_with (first
              | (have hgd := hown6; go_at_call 27; go_must ((with_reducible refine (RunN _ _ _ _ f.flat _ _ _ M' _ B 0 rfl HML.out HU2.out HD2.out hA6 (by omega) hm6 (by omega)).mono ?_); rintro e w7 ⟨a7, c7, rfl, hown7, hb7⟩; have hB7 := hB6.trans (hb7.mono hz6); have hz7 := hB7.size; have ho7 := (ho6.belowN hb7); have hown67 := (hown6.belowN hb7).at_; have hown77 := hown7.at_))
              | (go_at_call 27; go_must ((with_reducible refine (RunN _ _ _ _ f.flat _ _ _ r _ A 0 rfl HRN.out HU1.out HD1.out hA5 (by omega) hr5 (by omega)).mono ?_); rintro e w6 ⟨a6, c6, rfl, hown6, hb6⟩; have hB6 := hB5.trans (hb6.mono hz5); have hz6 := hB6.size; have hA6 := (hA5.belowN hb6); have hm6 := (hm5.belowN hb6); have ho6 := ho5.belowN hb6; have hX6 := hX5.belowN hb6; obtain ⟨s0, s1, s2, s3⟩ := hX6.c2)))
            go_loopw [19, 20] (fun iv _ wr => ∃ k : Nat, iv = .int .i64 k ∧ k ≤ n ∧ ∃ d, wr = w7.drewN d) (fun iv _ _ => n - (intOf iv).toNat)
            case atStart => exact ⟨0, rfl, by omega, 0, rfl⟩
            case round =>
              obtain ⟨k, rfl, hk, d, rfl⟩ := hrel
              by_cases hkn : k < n
              · obtain ⟨b1, off1, x, hba, hx, c0⟩ := ho7.getI (Below.refl _ _) (by rw [← HN.out]; exact hkn)
                subst hba
                have hmem := List.mem_of_getElem? hx.out
                obtain ⟨x0, x1⟩ := HOU.out x hmem
                obtain ⟨b3, off3, y, hba, hy, d0⟩ := hown67.getU (Below.refl _ _) (by rw [HL1.out]; omega : x.toNat < A.length)
                subst hba
                obtain ⟨b4, off4, z, hba, hz, e0⟩ := hown77.getU (Below.refl _ _) (by rw [HL2.out]; omega : x.toNat < B.length)
                subst hba
                have hyz : y = z := by
                  have := HMF.out x hmem
                  unfold getR at this
                  rw [hy.out, hz.out] at this
                  exact this
                subst hyz
                have i0 : decide (x < 0) = false := decide_eq_false (by omega)
                have i1 : decide ((A.length : Int) ≤ x) = false := decide_eq_false (by rw [HL1.out]; omega)
                have i2 : decide ((B.length : Int) ≤ x) = false := decide_eq_false (by rw [HL2.out]; omega)
                have i3 : x < (A.length : Int) := by rw [HL1.out]; omega
                have i4 : x < (B.length : Int) := by rw [HL2.out]; omega
                clear hx hy hz hmem
                go_wp2
                go_quiet (fail)
                go_wp2
                go_roundw
                case rel => exact ⟨k + 1, by go_num, by omega, _, rfl⟩
                case measure => simp [intOf]; omega
              · go_wp2_with (go_at_call 19; go_must ((with_reducible refine (goes16_calls _).mono ?_); rintro e w11 ⟨rfl, hbel11⟩))
                go_ret
                exact ⟨rfl, (below_drewN hB7 _).trans (hbel11.mono (by simp; omega))⟩
end Go.Proofs.Ytokkidelbbegjaa
