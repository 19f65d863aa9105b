/- Chapter 16: LiveMore. -/
import Derived.Test.YtokkidelbbegjaaL16j
namespace Go.Proofs.Ytokkidelbbegjaa
set_option linter.unusedVariables false
set_option linter.unusedSimpArgs false
open Go.RowKit Go.Shelf
theorem eq_of_getB {v w : List Bool} (hl : v.length = w.length) (h : ∀ j : Int, 0 ≤ j → getB v j = getB w j) : v = w := by
  refine List.ext_getElem hl fun i h1 h2 => ?_
  have := h (i : Int) (by omega)
  simpa [getB, List.getElem?_eq_getElem h1, List.getElem?_eq_getElem h2] using this
theorem outsB_append (regs : Int) (a b : List Int) : outsB regs (a ++ b) = (outsB regs a && outsB regs b) := by unfold outsB; rw [List.all_append]
theorem outsB_in {regs : Int} {outs : List Int} (h : outsB regs outs = true) : ∀ i ∈ outs, 0 ≤ i ∧ i < regs := fun i hi => by
  have h0 := List.all_eq_true.1 h i hi
  simpa using h0
theorem mark_comm (w : List Bool) (a b : List Int) (ha : ∀ i ∈ a, 0 ≤ i ∧ i.toNat < w.length) (hb : ∀ i ∈ b, 0 ≤ i ∧ i.toNat < w.length) : markL w (a ++ b) = markL w (b ++ a) := by
  refine eq_of_getB (by rw [markL_length, markL_length]) fun j hj => ?_
  rw [getB_mark _ _ _ (fun i hi => (List.mem_append.1 hi).elim (ha i) (hb i)) hj, getB_mark _ _ _ (fun i hi => (List.mem_append.1 hi).elim (hb i) (ha i)) hj]
  simp only [List.mem_append, Or.comm]
theorem liveE_comm (regs : Int) (l : List OpD) (a b : List Int) : liveE regs l (a ++ b) = liveE regs l (b ++ a) := by
  unfold liveE
  rw [outsB_append, outsB_append, Bool.and_comm]
theorem lv0_comm {regs : Int} (n : Nat) {a b : List Int} (h : outsB regs (a ++ b) = true) (h1 : 1 ≤ regs) : lv0 regs.toNat n (a ++ b) = lv0 regs.toNat n (b ++ a) := by
  rw [outsB_append] at h
  simp only [Bool.and_eq_true] at h
  unfold lv0
  rw [mark_comm _ a b (fun i hi => by have := outsB_in h.1 i hi; rw [List.length_replicate]; omega) (fun i hi => by have := outsB_in h.2 i hi; rw [List.length_replicate]; omega)]
theorem live_comm (regs : Int) (l : List OpD) (a b : List Int) : liveO regs l (a ++ b) = liveO regs l (b ++ a) ∧ liveF regs l (a ++ b) = liveF regs l (b ++ a) ∧ liveC regs l (a ++ b) = liveC regs l (b ++ a) := by
  unfold liveO liveF liveC
  rw [liveE_comm regs l a b]
  by_cases h : liveE regs l (b ++ a) = 0
  · simp only [if_pos h]
    by_cases hc : checkS regs l = 0
    · obtain ⟨f, rfl, g⟩ := good_of_check hc
      have hB : outsB regs (a ++ b) = true := by
        rw [← liveE_comm] at h
        unfold liveE at h
        rw [if_neg (by rw [hc]; simp)] at h
        split at h
        · assumption
        · cases h
      unfold liveV
      rw [fo_flat g.ok]
      unfold Fo.look
      rw [lv0_comm f.size hB g.r1]
      simp
    · exfalso
      unfold liveE at h
      rw [if_pos hc] at h
      exact hc h
  · simp only [if_neg h, and_self]
theorem live_more {regs : Int} {l : List OpD} {a b : List Int} (h : liveE regs l (a ++ b) = 0) : liveE regs l b = 0 ∧ (liveO regs l b).length = (liveO regs l (a ++ b)).length ∧ subB (liveO regs l b) (liveO regs l (a ++ b)) := by
  have hc : checkS regs l = 0 := Classical.byContradiction fun hc => by
    unfold liveE at h
    rw [if_pos hc] at h
    exact hc h
  obtain ⟨f, rfl, g⟩ := good_of_check hc
  have hB : outsB regs (a ++ b) = true := by
    unfold liveE at h
    rw [if_neg (by rw [hc]; simp)] at h
    split at h
    · assumption
    · cases h
  have hB2 : outsB regs b = true := by rw [outsB_append] at hB; simp only [Bool.and_eq_true] at hB; exact hB.2
  have hB1 : outsB regs a = true := by rw [outsB_append] at hB; simp only [Bool.and_eq_true] at hB; exact hB.1
  obtain ⟨e0, e1, e2, e3⟩ := live_good g hB2
  obtain ⟨k0, k1, k2, k3⟩ := live_good g hB
  refine ⟨e0, by rw [e1, k1, look_ops_length, look_ops_length], ?_⟩
  rw [e1, k1]
  have hr := g.r1
  have hin := fun (p : Nat × OpD) (hp : p ∈ f.zl) => g.inR p.2 (by rw [← f.zl_ops]; exact List.mem_map_of_mem hp)
  refine (sub_run f.zl hin (s := lv0 regs.toNat f.size b) (t := lv0 regs.toNat f.size (a ++ b)) (by simp [lv0, markL_length]; omega) (by simp [lv0, markL_length]; omega) rfl ?_ (fun j _ h => h)).2
  intro j hj
  have b1 : ∀ i ∈ b, 0 ≤ i ∧ i.toNat < (List.replicate regs.toNat false).length := fun i hi => by have := outsB_in hB2 i hi; rw [List.length_replicate]; omega
  have a1 : ∀ i ∈ a, 0 ≤ i ∧ i.toNat < (List.replicate regs.toNat false).length := fun i hi => by have := outsB_in hB1 i hi; rw [List.length_replicate]; omega
  unfold lv0
  simp only
  rw [getB_mark _ _ _ b1 hj, getB_mark _ _ _ (fun i hi => (List.mem_append.1 hi).elim (a1 i) (b1 i)) hj]
  simp only [List.mem_append, Bool.or_eq_true, decide_eq_true_eq]
  rintro (h | h)
  · exact .inl h
  · exact .inr (.inr h)
set_option maxRecDepth 100000 in
set_option maxHeartbeats 6400000 in
theorem LiveMore_calls (regs : Int) (a : Option Addr) (c : Nat) (l : List OpD) (oa : Option Addr) (oc : Nat) (outs : List Int) (ma : Option Addr) (mc : Nat) (more : List Int) (w : World) (h : At w a l) (ho : At w oa outs) (hm : At w ma more) :
    Calls Try.prog 5 #[.agg #[.int .i64 regs, .slice a l.length c], .slice oa outs.length oc, .slice ma more.length mc] w fun e w' => e = .returned (.bool true) ∧ Below w.heap.size w w' := by
  have hb0 := below_new12 w (.cells #[.int .i64 regs, .slice a l.length c] 24)
  have hX := Blk.new w 24 #[.int .i64 regs, .slice a l.length c]
  have h1 := h.belowN hb0
  have ho1 := ho.belowN hb0
  have hm1 := hm.belowN hb0
  obtain ⟨n, hn⟩ : ∃ n, n = outs.length := ⟨_, rfl⟩
  have HN := hide hn
  obtain ⟨m, hmn⟩ : ∃ m, m = more.length := ⟨_, rfl⟩
  have HM := hide hmn
  rw [← hn, ← hmn]
  by_cases hg : n ≤ 100
  · by_cases hg2 : m ≤ 100
    · cases hs : small13 regs l 100 with
      | false =>
        have HS := hide hs
        clear hs hn hmn
        go_enter Try.func5, Try.ntmps5
        go_wp2_with (first
          | (go_at_call 18; (with_reducible refine (Small13_calls regs a c l _ false HS.out _ h1 (by omega)).mono ?_); rintro e w1 ⟨rfl, hb1⟩; have hB1 := hb0.trans (hb1.mono hb0.size); have hz1 := hB1.size)
          | (go_at_call 19; (with_reducible refine (goes16_calls _).mono ?_); rintro e w8 ⟨rfl, hbel8⟩))
        go_ret
        first
          | exact ⟨rfl, hB1.trans (hbel8.mono hz1)⟩
          | exact ⟨rfl, hb0.trans (hbel8.mono hb0.size)⟩
      | true =>
        have hsl := small_le16 hs
        have HS := hide hs
        obtain ⟨hz0, _, _⟩ := live_sizes regs l outs
        obtain ⟨hy0, _, _⟩ := live_sizes regs l (more ++ outs)
        obtain ⟨c1, c2, c3⟩ := live_comm regs l outs more
        have c0 := liveE_comm regs l outs more
        have HLM := hide (fun (h : liveE regs l (more ++ outs) = 0) => live_more h)
        obtain ⟨O, hO⟩ : ∃ O, liveO regs l outs = O := ⟨_, rfl⟩
        obtain ⟨E, hE⟩ : ∃ E, liveE regs l outs = E := ⟨_, rfl⟩
        obtain ⟨P, hP⟩ : ∃ P, liveO regs l (more ++ outs) = P := ⟨_, rfl⟩
        obtain ⟨D, hD⟩ : ∃ D, liveE regs l (more ++ outs) = D := ⟨_, rfl⟩
        rw [hO] at hz0
        rw [hP] at hy0
        rw [hP] at c1
        rw [hD] at c0
        rw [hO, hP, hE, hD] at HLM
        have HO := hide hO
        have HE := hide hE
        have HP := hide hP
        have HD := hide hD
        have HC0 := hide c0
        have HC1 := hide c1
        have HMN := hide (show m + n = (more ++ outs).length by rw [List.length_append, ← hn, ← hmn])
        have HNM := hide (show n + m = (outs ++ more).length by rw [List.length_append, ← hn, ← hmn])
        obtain ⟨on, hon⟩ : ∃ on, on = O.length := ⟨_, rfl⟩
        obtain ⟨pn, hpn⟩ : ∃ pn, pn = P.length := ⟨_, rfl⟩
        have HON := hide hon
        have HPN := hide hpn
        rw [← hon] at hz0
        rw [← hpn] at hy0
        clear hO hE hP hD c0 c1 c2 c3 hs hn hmn hon hpn
        go_enter Try.func5, Try.ntmps5
        go_wp2_with (first
          | (go_at_call 18; go_must ((with_reducible refine (Small13_calls regs a c l _ true HS.out _ h1 (by omega)).mono ?_); rintro e w1 ⟨rfl, hb1⟩; have hB1 := hb0.trans (hb1.mono hb0.size); have hz1 := hB1.size; have hX1 := hX.belowN hb1; have h2 := h1.belowN hb1; have ho2 := ho1.belowN hb1; have hm2 := hm1.belowN hb1; obtain ⟨p0, p1, p2, p3⟩ := hX1.c2))
          | (go_at_call 21; go_must ((with_reducible refine (NeededN regs a c _ l rfl oa oc n outs HN.out _ O _ _ E on _ HON.out rfl HO.out rfl rfl HE.out h2 (by omega) ho2 (by omega)).mono ?_); rintro e w3 ⟨⟨a3, c3, rfl, hown3⟩, hb3⟩; have hB3 := hB1.trans (hb3.mono hz1); have hz3 := hB3.size; have hX3 := hX1.belowN hb3; have h3 := h2.belowN hb3; have ho3 := ho2.belowN hb3; have hm3 := hm2.belowN hb3; obtain ⟨r0, r1, r2, r3⟩ := hX3.c2)))
        have t1 := hX3.lt
        have hO0 : Own (w3.drew.alloc (.cells #[] 3)) w3.heap.size 3 (some ⟨w3.heap.size, 0, none⟩) 0 ([] : List Int) := Own.new w3.drew (Nat.le_refl _) 3 Int
        have hN0 : Below w3.heap.size w3 (w3.drew.alloc (.cells #[] 3)) := Below.alloc (Below.drew (Below.refl _ _)) (Nat.le_refl _) _
        go_region_held3 (fun w' => w'.cell? ⟨w.heap.size, 0, none⟩ = some (.int .i64 regs) ∧ w'.cell? ⟨w.heap.size, 1, none⟩ = some (.slice a l.length c)) (go_keep)
          (first
            | (refine step_pushAll tyI hown4 (l2 := outs) (ho3.belowN hB34) rfl rfl rfl rfl HM.out HN.out hz34 (by omega) (by omega) ?_; intro a5 c5 w5 hown5 hg5 _; have hB35 := below_push hB34 hown4 hg5 hz34; have hz35 := hB35.size; obtain ⟨u0, u1, u2, u3⟩ := (hX3.belowN hB35).c2)
            | (refine step_pushAll tyI hO0 (l2 := more) (hm3.belowN hN0) rfl rfl rfl rfl rfl HM.out (by simp) (by omega) (by omega) ?_; intro a4 c4 w4 hown4 hg4 _; have hB34 := below_push hN0 hO0 hg4 (by simp); have hz34 := hB34.size; obtain ⟨v0, v1, v2, v3⟩ := (hX3.belowN hB34).c2; rw [List.nil_append] at hown4; rw [Nat.zero_add])
            | (go_at_call 21; (with_reducible refine (NeededN regs a c _ l rfl _ _ (m + n) (more ++ outs) HMN.out _ P _ _ D pn _ HPN.out rfl HP.out rfl rfl HD.out (h3.belowN hB35) (by omega) hown5.at_ (by omega)).mono ?_); rintro e w6 ⟨⟨a6, c6, rfl, hown6⟩, hb6⟩; have hB36 := hB35.trans (hb6.mono hz35); have hz36 := hB36.size; have hX6 := (hX3.belowN hB36); obtain ⟨y0, y1, y2, y3⟩ := hX6.c2))
        go_wp2
        have t6 := hX6.lt
        have h6 := h3.belowN hB36
        have ho6 := ho3.belowN hB36
        have hm6 := hm3.belowN hB36
        have hA3 := hown3.belowN hB36
        have hO6 : Own (w6.drew.alloc (.cells #[] 3)) w6.heap.size 3 (some ⟨w6.heap.size, 0, none⟩) 0 ([] : List Int) := Own.new w6.drew (Nat.le_refl _) 3 Int
        have hN6 : Below w6.heap.size w6 (w6.drew.alloc (.cells #[] 3)) := Below.alloc (Below.drew (Below.refl _ _)) (Nat.le_refl _) _
        clear hown4 hown5 hO0 hN0 v0 v1 v2 v3 u0 u1 u2 u3
        go_region_held3 (fun w' => w'.cell? ⟨w.heap.size, 0, none⟩ = some (.int .i64 regs) ∧ w'.cell? ⟨w.heap.size, 1, none⟩ = some (.slice a l.length c)) (go_keep)
          (first
            | (refine step_pushAll tyI hown7 (l2 := more) (hm6.belowN hB67) rfl rfl rfl rfl HN.out HM.out hz67 (by omega) (by omega) ?_; intro a8 c8 w8 hown8 hg8 _; have hB68 := below_push hB67 hown7 hg8 hz67; have hz68 := hB68.size; obtain ⟨u0, u1, u2, u3⟩ := (hX6.belowN hB68).c2)
            | (refine step_pushAll tyI hO6 (l2 := outs) (ho6.belowN hN6) rfl rfl rfl rfl rfl HN.out (by simp) (by omega) (by omega) ?_; intro a7 c7 w7 hown7 hg7 _; have hB67 := below_push hN6 hO6 hg7 (by simp); have hz67 := hB67.size; obtain ⟨v0, v1, v2, v3⟩ := (hX6.belowN hB67).c2; rw [List.nil_append] at hown7; rw [Nat.zero_add])
            | (go_at_call 21; (with_reducible refine (NeededN regs a c _ l rfl _ _ (n + m) (outs ++ more) HNM.out _ P _ _ D pn _ HPN.out rfl HC1.out rfl rfl HC0.out (h6.belowN hB68) (by omega) hown8.at_ (by omega)).mono ?_); rintro e w9 ⟨⟨a9, c9, rfl, hown9⟩, hb9⟩; have hB69 := hB68.trans (hb9.mono hz68); have hz69 := hB69.size; have hX9 := (hX6.belowN hB69); obtain ⟨y0, y1, y2, y3⟩ := hX9.c2))
        have hA9 := (hA3.belowN hB69).at_
        have hP9 := (hown6.belowN hB69).at_
        have hQ9 := hown9.at_
        have hB9 := hB3.trans ((hB36.trans (hB69.mono hz36)).mono hz3)
        have hz9 := hB9.size
        clear hown7 hown8 hO6 hN6 v0 v1 v2 v3 u0 u1 u2 u3
        by_cases hD0 : D = 0
        · obtain ⟨hE0, hol, hsub⟩ := HLM.out hD0
          have HSUB := hide hsub
          have hop : on = pn := by rw [HON.out, HPN.out, hol]
          subst hop hD0 hE0
          clear hsub hol
          go_wp2_with (go_at_call 24; go_must ((with_reducible refine (Bools16N _ _ _ _ _ _ P _ HPN.out HPN.out hP9 hQ9 (by omega)).mono ?_); rintro e w10 ⟨rfl, q10, rfl⟩))
          go_loopw [13] (fun iv wr => ∃ k : Nat, iv = .int .i64 k ∧ k ≤ on ∧ ∃ d, wr = w9.drewN d) (fun iv _ => on - (intOf iv).toNat)
          case atStart => exact ⟨0, rfl, by omega, _, rfl⟩
          case round =>
            obtain ⟨k, rfl, hk, d, rfl⟩ := hrel
            by_cases hkn : k < on
            · obtain ⟨b1, off1, x, rfl, hx, c0⟩ := hA9.getBo (Below.refl _ _) (by rw [← HON.out]; exact hkn)
              obtain ⟨b2, off2, y, rfl, hy, d0⟩ := hP9.getBo (Below.refl _ _) (by rw [← HPN.out]; exact hkn)
              have i0 : (0 : Int) ≤ (k : Int) := by omega
              have i1 : (k : Int) < (on : Int) := by omega
              have hxy : x = true → y = true := fun e => by
                have h1 : getB O k = true := by unfold getB; simp only [Int.toNat_natCast]; rw [hx.out]; exact e
                have h2 := HSUB.out k i0 h1
                unfold getB at h2
                simp only [Int.toNat_natCast] at h2
                rw [hy.out] at h2
                exact h2
              clear hx hy
              cases x with
              | false =>
                clear hxy
                go_wp2
                go_roundw
                case rel => exact ⟨k + 1, by go_num, by omega, _, rfl⟩
                case measure => simp [intOf]; omega
              | true =>
                obtain rfl : y = true := hxy rfl
                clear hxy
                go_wp2
                go_roundw
                case rel => exact ⟨k + 1, by go_num, by omega, _, rfl⟩
                case measure => simp [intOf]; omega
            · obtain rfl : k = on := by omega
              go_wp2_with (go_at_call 19; go_must ((with_reducible refine (goes16_calls _).mono ?_); rintro e w11 ⟨rfl, hbel11⟩))
              go_ret
              exact ⟨rfl, (below_drewN hB9 _).trans (hbel11.mono (by simp; omega))⟩
        · have hd0 : (D == 0) = false := by simpa using hD0
          have HND := hide hD0
          clear hD0
          go_wp2_with (go_at_call 24; go_must ((with_reducible refine (Bools16N _ _ _ _ _ _ P _ HPN.out HPN.out hP9 hQ9 (by omega)).mono ?_); rintro e w10 ⟨rfl, q10, rfl⟩))
          go_loopw [13] (fun iv wr => iv = .int .i64 0 ∧ ∃ d, wr = w9.drewN d) (fun iv _ => 0)
          case atStart => exact ⟨rfl, _, rfl⟩
          case round =>
            obtain ⟨rfl, d, rfl⟩ := hrel
            go_wp2_with (go_at_call 19; go_must ((with_reducible refine (goes16_calls _).mono ?_); rintro e w11 ⟨rfl, hbel11⟩))
            go_ret
            exact ⟨rfl, (below_drewN hB9 _).trans (hbel11.mono (by simp; omega))⟩
    · go_enter Try.func5, Try.ntmps5
      go_wp2_with (go_at_call 19; (with_reducible refine (goes16_calls _).mono ?_); rintro e w8 ⟨rfl, hbel8⟩)
      go_ret
      exact ⟨rfl, hb0.trans (hbel8.mono hb0.size)⟩
  · go_enter Try.func5, Try.ntmps5
    go_wp2_with (go_at_call 19; (with_reducible refine (goes16_calls _).mono ?_); rintro e w8 ⟨rfl, hbel8⟩)
    go_ret
    exact ⟨rfl, hb0.trans (hbel8.mono hb0.size)⟩
end Go.Proofs.Ytokkidelbbegjaa
