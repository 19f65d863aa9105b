/- Chapter 20: SegmentRounds. -/
import Derived.Test.YtokkidelbbegjaaS20g
namespace Go.Proofs.Ytokkidelbbegjaa
set_option linter.unusedVariables false
set_option linter.unusedSimpArgs false
open Go.RowKit
theorem rgt_snoc {l : List OpD} (b r : Int) : ∀ bs rs : List Int, bs.length = rs.length → rgt l (bs ++ [b]) (rs ++ [r]) = (rgt l bs rs && (decide (0 ≤ r) && decide (r < ((vAt l b).toNat : Int))))
  | [], [], _ => by simp [rgt]
  | c :: bs, [], h => by simp at h
  | [], s :: rs, h => by simp at h
  | c :: bs, s :: rs, h => by
    rw [List.cons_append, List.cons_append, rgt, rgt, rgt_snoc b r bs rs (by simpa using h)]
    simp only [Bool.and_assoc]
theorem rounds20 {regs : Int} {f : Fo} (g : Good regs f) {i : Nat} {x : OpD} (hx : f.flat[i]? = some x) (h7 : x.kind = 7) :
    ∃ (m : Nat) (T : Nat → Int) (ok : Bool), f.rounds[i]? = some (m : Int) ∧ m ≤ 65536 ∧
      (∀ k : Nat, k < x.v.toNat → segS regs f.flat (i : Int) (List.replicate (encl 0 f i).length 0 ++ [(k : Int)]) = if ok = true then (T k, T k + m, 0) else (0, 0, 2)) ∧
      (ok = true → ∀ k : Nat, k < x.v.toNat → 0 ≤ T k ∧ T k ≤ 65536 ∧ (k + 1 < x.v.toNat → T (k + 1) = T k + m)) := by
  obtain ⟨hep, hep2⟩ := f.encl_pth g.ok 0 i x hx (by omega)
  have hpt := hep2 h7
  rw [Nat.zero_add, ← hep] at hpt
  have hA := around_good g.ok hx
  have hl := (List.getElem?_eq_some_iff.1 hx).1
  have hST := Stands.whole g.ok
  rcases place9 g.ok hx with ⟨_, b, fin, r, hs, g1, g2, g3⟩ | ⟨h0, _⟩ | ⟨h1', h2', _⟩
  case inr.inl => omega
  case inr.inr => omega
  obtain ⟨p1, p2, p3, p4, p5, p6⟩ := plan_rep g.ok hs
  have hmm := (may_all g.ok g.may hs).1
  have hv : vAt f.flat (i : Int) = x.v := vAt_stands hs
  obtain ⟨zs, hzs⟩ : ∃ zs : List Int, zs = List.replicate (encl 0 f i).length 0 := ⟨_, rfl⟩
  rw [← hzs]
  have hzl : (encl 0 f i).length = zs.length := by rw [hzs]; simp
  have hr : ∀ k : Nat, k < x.v.toNat → rgt f.flat (encl 0 f i ++ [(i : Int)]) (zs ++ [(k : Int)]) = rgt f.flat (encl 0 f i) zs := fun k hk => by
    rw [rgt_snoc _ _ _ _ hzl, hv]
    have k1 : (0 : Int) ≤ (k : Int) := by omega
    have k2 : (k : Int) < (x.v.toNat : Int) := by omega
    simp [k2]
  refine ⟨b.wr, fun k => f.plc (i + 1) (zs ++ [(k : Int)]), rgt f.flat (encl 0 f i) zs, p5, hmm, fun k hk => ?_, fun hok k hk => ?_⟩
  · unfold segS
    rw [if_neg (by rw [g.check]; simp), if_neg (by omega), hA, hr k hk, fo_flat g.ok]
    have hra : repAt f.flat (i : Int) = true := by unfold repAt; simp only [Int.toNat_natCast]; rw [hx]; simp [h7]
    simp only [Int.toNat_natCast]
    rw [p5]
    by_cases hok : rgt f.flat (encl 0 f i) zs = true
    · rw [if_pos ⟨hra, hok⟩, if_pos hok]; rfl
    · rw [if_neg (fun hh => hok hh.2), if_neg hok]
  · have hrr := (rgt_rok _ f 0 (i + 1) (zs ++ [(k : Int)]) hST (by unfold Fo.size; omega) hpt).1 (by rw [hr k hk]; exact hok)
    have hbd := f.plc_bd _ _ hrr
    have := g.few
    refine ⟨hbd.1, by show f.plc (i + 1) (zs ++ [(k : Int)]) ≤ 65536; omega, fun hk1 => ?_⟩
    have hsl := (f.seg_last 0 i x b fin r (zs ++ [(k : Int)]) ((k + 1 : Nat) : Int) g.may hST (by rw [Nat.zero_add]; exact hs) (by unfold Fo.size; omega) hrr (fun _ => by simp)).2.2
    rw [List.dropLast_concat] at hsl
    exact hsl
theorem rounds20g (regs : Int) {f : Fo} (hf : f.ok) (hmay : f.may = true) {i : Nat} {x : OpD} (hx : f.flat[i]? = some x) (h7 : x.kind = 7) :
    ∃ (m : Nat) (T : Nat → Int) (G : Int), f.rounds[i]? = some (m : Int) ∧ m ≤ 65536 ∧
      (∀ k : Nat, k < x.v.toNat → segS regs f.flat (i : Int) (List.replicate (encl 0 f i).length 0 ++ [(k : Int)]) = if G = 0 then (T k, T k + m, 0) else (0, 0, G)) ∧
      (G = 0 → ∀ k : Nat, k < x.v.toNat → 0 ≤ T k ∧ T k ≤ 65536 ∧ (k + 1 < x.v.toNat → T (k + 1) = T k + m)) := by
  by_cases hc : checkS regs f.flat = 0
  · obtain ⟨f', hff, g⟩ := good_of_check hc
    have e : fo f.flat = fo f'.flat := by rw [hff]
    rw [fo_flat hf, fo_flat g.ok] at e
    subst e
    obtain ⟨m, T, ok, h1, h2, h3, h4⟩ := rounds20 g hx h7
    refine ⟨m, T, if ok = true then 0 else 2, h1, h2, fun k hk => ?_, fun hG => ?_⟩
    · rw [h3 k hk]; cases ok <;> simp
    · cases ok with
      | true => exact h4 rfl
      | false => simp at hG
  · rcases place9 hf hx with ⟨_, b, fin, r, hs, g1, g2, g3⟩ | ⟨h0, _⟩ | ⟨h1', h2', _⟩
    case inr.inl => omega
    case inr.inr => omega
    obtain ⟨p1, p2, p3, p4, p5, p6⟩ := plan_rep hf hs
    refine ⟨b.wr, fun _ => 0, checkS regs f.flat, p5, (may_all hf hmay hs).1, fun k hk => ?_, fun hG => absurd hG hc⟩
    unfold segS
    rw [if_pos hc, if_neg hc]
theorem size_ok20 {l : List OpD} (h : sizeE l = 0) : ∃ f : Fo, l = f.flat ∧ f.ok ∧ f.may = true ∧ f.wr ≤ 65536 ∧ sizeR l = f.rounds := by
  cases hw : well l with
  | false => rw [(size_bad hw).1] at h; omega
  | true =>
    obtain ⟨f, hf, rfl⟩ := forest_of_well l hw
    by_cases hm : f.may = true ∧ f.wr ≤ 65536
    · exact ⟨f, rfl, hf, hm.1, hm.2, (W9_ok hf hm).2.2.2⟩
    · rw [(W9_no hf hm).1] at h; omega
theorem SizeRN (a : Option Addr) (c n : Nat) (l : List OpD) (hn : n = l.length) (R : List Int) (hR : sizeR l = R) (m : Nat) (hm : m = R.length) (E : Int) (hE : sizeE l = E) (w : World) (h : At w a l) (hl : n ≤ 1000000) :
    Calls Try.prog 26 #[.slice a n c] w fun e w' => ∃ a' c', e = .returned (.tuple #[.slice a' m c', .int .i64 E]) ∧ Own w' w.heap.size 3 a' c' R ∧ Below w.heap.size w w' := by
  subst hn hR hm hE
  exact SizeR_calls a c l w h hl
set_option maxRecDepth 100000 in
set_option maxHeartbeats 3200000 in
theorem SegmentRounds_calls (regs : Int) (a : Option Addr) (c : Nat) (l : List OpD) (i : Int) (w : World) (h : At w a l) (hi1 : -9223372036854775808 ≤ i) (hi2 : i ≤ 9223372036854775807) :
    Calls Try.prog 7 #[.agg #[.int .i64 regs, .slice a l.length c], .int .i64 i] w fun e w' => e = .returned (.bool true) ∧ Below w.heap.size w w' := by
  have hb0 := below_new12 w (.cells #[.int .i64 regs, .slice a l.length c] 24)
  have hX := Blk.new w 24 #[.int .i64 regs, .slice a l.length c]
  have h1 := h.belowN hb0
  cases hs : small13 regs l 100 with
  | false =>
    have HS := hide hs
    clear hs
    go_enter Try.func7, Try.ntmps7
    go_wp2_with (first
      | (go_at_call 18; (with_reducible refine (Small13_calls regs a c l _ false HS.out _ h1 (by omega)).mono ?_); rintro e w1 ⟨rfl, hb1⟩; have hB1 := hb0.trans (hb1.mono hb0.size); have hz1 := hB1.size)
      | (go_at_call 10; (with_reducible refine (goes20_calls _).mono ?_); rintro e w8 ⟨rfl, hbel8⟩))
    go_ret
    exact ⟨rfl, hB1.trans (hbel8.mono hz1)⟩
  | true =>
    have hsl := small_le20 hs
    have HS := hide hs
    obtain ⟨bs, E, hAR⟩ : ∃ bs E, aroundS l i = (bs, E) := ⟨_, _, rfl⟩
    obtain ⟨R, hR⟩ : ∃ R, sizeR l = R := ⟨_, rfl⟩
    obtain ⟨F, hF⟩ : ∃ F, sizeE l = F := ⟨_, rfl⟩
    obtain ⟨bn, hbn⟩ : ∃ bn, bn = bs.length := ⟨_, rfl⟩
    obtain ⟨rn, hrn⟩ : ∃ rn, rn = R.length := ⟨_, rfl⟩
    have HAR := hide hAR
    have HR := hide hR
    have HF := hide hF
    have HBN := hide hbn
    have HRN := hide hrn
    by_cases hE : E = 0
    case neg =>
      have e1 : (E == 0) = false := by simpa using hE
      have e2 : (E != 0) = true := by simpa using hE
      clear hs hAR hR hF hbn hrn hE
      go_enter Try.func7, Try.ntmps7
      go_wp2_with (first
      | (go_at_call 18; (with_reducible refine (Small13_calls regs a c l _ true HS.out _ h1 (by omega)).mono ?_); rintro e w1 ⟨rfl, hb1⟩; have hB1 := hb0.trans (hb1.mono hb0.size); have hz1 := hB1.size; have hX1 := hX.belowN hb1; have h2 := h1.belowN hb1; obtain ⟨p0, p1, p2, p3⟩ := hX1.c2)
      | (go_at_call 25; go_must ((with_reducible refine (AroundQ a c l _ _ bs _ bn HBN.out HAR.out h2 (by omega)).mono ?_); rintro e w2 ⟨a2, c2, rfl, hown2, hb2⟩; have hB2 := hB1.trans (hb2.mono hz1); have hz2 := hB2.size; have hX2 := hX1.belowN hb2; have h3 := h2.belowN hb2; obtain ⟨q0, q1, q2, q3⟩ := hX2.c2))
      | (go_at_call 26; go_must ((with_reducible refine (SizeRN a c _ l rfl R HR.out rn HRN.out _ HF.out _ h3 (by omega)).mono ?_); rintro e w3 ⟨a3, c3, rfl, hown3, hb3⟩; have hB3 := hB2.trans (hb3.mono hz2); have hz3 := hB3.size; have hX3 := hX2.belowN hb3; have h4 := h3.belowN hb3; obtain ⟨r0, r1, r2, r3⟩ := hX3.c2))
      | (go_at_call 10; (with_reducible refine (goes20_calls _).mono ?_); rintro e w8 ⟨rfl, hbel8⟩))
      go_ret
      exact ⟨rfl, hB3.trans (hbel8.mono hz3)⟩
    by_cases hF0 : F = 0
    case neg =>
      have e1 : (F == 0) = false := by simpa using hF0
      have e2 : (F != 0) = true := by simpa using hF0
      subst hE
      clear hs hAR hR hF hbn hrn hF0
      go_enter Try.func7, Try.ntmps7
      go_wp2_with (first
      | (go_at_call 18; (with_reducible refine (Small13_calls regs a c l _ true HS.out _ h1 (by omega)).mono ?_); rintro e w1 ⟨rfl, hb1⟩; have hB1 := hb0.trans (hb1.mono hb0.size); have hz1 := hB1.size; have hX1 := hX.belowN hb1; have h2 := h1.belowN hb1; obtain ⟨p0, p1, p2, p3⟩ := hX1.c2)
      | (go_at_call 25; go_must ((with_reducible refine (AroundQ a c l _ _ bs _ bn HBN.out HAR.out h2 (by omega)).mono ?_); rintro e w2 ⟨a2, c2, rfl, hown2, hb2⟩; have hB2 := hB1.trans (hb2.mono hz1); have hz2 := hB2.size; have hX2 := hX1.belowN hb2; have h3 := h2.belowN hb2; obtain ⟨q0, q1, q2, q3⟩ := hX2.c2))
      | (go_at_call 26; go_must ((with_reducible refine (SizeRN a c _ l rfl R HR.out rn HRN.out _ HF.out _ h3 (by omega)).mono ?_); rintro e w3 ⟨a3, c3, rfl, hown3, hb3⟩; have hB3 := hB2.trans (hb3.mono hz2); have hz3 := hB3.size; have hX3 := hX2.belowN hb3; have h4 := h3.belowN hb3; obtain ⟨r0, r1, r2, r3⟩ := hX3.c2))
      | (go_at_call 10; (with_reducible refine (goes20_calls _).mono ?_); rintro e w8 ⟨rfl, hbel8⟩))
      go_ret
      exact ⟨rfl, hB3.trans (hbel8.mono hz3)⟩
    subst hE hF0
    obtain ⟨f, rfl, hf, hmay, hwr, hRf⟩ := size_ok20 hF
    have hio : 0 ≤ i ∧ i < (f.flat.length : Int) := by
      refine Classical.byContradiction fun hn => ?_
      rw [around_out hf (by omega)] at hAR
      injection hAR with _ hAR
      omega
    obtain ⟨i, rfl⟩ : ∃ k : Nat, i = k := ⟨i.toNat, by omega⟩
    obtain ⟨x, hx⟩ : ∃ x, f.flat[i]? = some x := ⟨_, List.getElem?_eq_getElem (by omega)⟩
    have HX := hide hx
    have i1 : (0 : Int) ≤ (i : Int) := by omega
    have i2 : (i : Int) < (f.flat.length : Int) := by omega
    by_cases h7 : x.kind = 7
    case neg =>
      have e1 : (x.kind == 7) = false := by simpa using h7
      have e2 : (x.kind != 7) = true := by simpa using h7
      clear hs hAR hR hF hbn hrn hx
      go_enter Try.func7, Try.ntmps7
      go_wp2_with (first
      | (go_at_call 18; (with_reducible refine (Small13_calls regs a c f.flat _ true HS.out _ h1 (by omega)).mono ?_); rintro e w1 ⟨rfl, hb1⟩; have hB1 := hb0.trans (hb1.mono hb0.size); have hz1 := hB1.size; have hX1 := hX.belowN hb1; have h2 := h1.belowN hb1; obtain ⟨p0, p1, p2, p3⟩ := hX1.c2)
      | (go_at_call 25; go_must ((with_reducible refine (AroundQ a c f.flat _ _ bs _ bn HBN.out HAR.out h2 (by omega)).mono ?_); rintro e w2 ⟨a2, c2, rfl, hown2, hb2⟩; have hB2 := hB1.trans (hb2.mono hz1); have hz2 := hB2.size; have hX2 := hX1.belowN hb2; have h3 := h2.belowN hb2; obtain ⟨q0, q1, q2, q3⟩ := hX2.c2))
      | (go_at_call 26; go_must ((with_reducible refine (SizeRN a c _ f.flat rfl R HR.out rn HRN.out _ HF.out _ h3 (by omega)).mono ?_); rintro e w3 ⟨a3, c3, rfl, hown3, hb3⟩; have hB3 := hB2.trans (hb3.mono hz2); have hz3 := hB3.size; have hX3 := hX2.belowN hb3; have h4 := h3.belowN hb3; obtain ⟨r0, r1, r2, r3⟩ := hX3.c2; obtain ⟨b7, off7, hba, y0, _⟩ := getOp_eq h4 (Below.refl _ _) HX.out; subst hba))
      | (go_at_call 10; (with_reducible refine (goes20_calls _).mono ?_); rintro e w8 ⟨rfl, hbel8⟩))
      go_ret
      exact ⟨rfl, hB3.trans (hbel8.mono hz3)⟩
    obtain ⟨m, T, G, d1, d2, d3, d4⟩ := rounds20g regs hf hmay hx h7
    have hbe : bs = encl 0 f i := by
      rw [around_good hf hx] at hAR
      injection hAR with hAR _
      exact hAR.symm
    rw [← hbe, ← hbn] at d3
    have hRr : R[i]? = some (m : Int) := by rw [← hR, hRf]; exact d1
    have hrl : rn = f.flat.length := by rw [hrn, ← hR, hRf]; exact f.rounds_length
    have hbl : bn ≤ 100 := by
      have := encl_length f 0 i
      rw [← hbe, ← hbn] at this
      unfold Fo.size at this
      omega
    have HRR := hide hRr
    have HD3 := hide d3
    have HD4 := hide d4
    have BE := hide (show IntKind.i64.wrap ((bn : Int) + 1) = ((bn + 1 : Nat) : Int) by rw [IntWalk.i64_in _ (by omega)]; omega)
    have e1 : (x.kind == 7) = true := by simpa using h7
    have e2 : (x.kind != 7) = false := by simpa using h7
    clear hs hAR hR hF hbn hrn hx hRr d3 d4 hbe hRf
    go_enter Try.func7, Try.ntmps7
    go_wp2_with (first
      | (go_at_call 18; (with_reducible refine (Small13_calls regs a c f.flat _ true HS.out _ h1 (by omega)).mono ?_); rintro e w1 ⟨rfl, hb1⟩; have hB1 := hb0.trans (hb1.mono hb0.size); have hz1 := hB1.size; have hX1 := hX.belowN hb1; have h2 := h1.belowN hb1; obtain ⟨p0, p1, p2, p3⟩ := hX1.c2)
      | (go_at_call 25; go_must ((with_reducible refine (AroundQ a c f.flat _ _ bs _ bn HBN.out HAR.out h2 (by omega)).mono ?_); rintro e w2 ⟨a2, c2, rfl, hown2, hb2⟩; have hB2 := hB1.trans (hb2.mono hz1); have hz2 := hB2.size; have hX2 := hX1.belowN hb2; have h3 := h2.belowN hb2; obtain ⟨q0, q1, q2, q3⟩ := hX2.c2))
      | (go_at_call 26; go_must ((with_reducible refine (SizeRN a c _ f.flat rfl R HR.out rn HRN.out _ HF.out _ h3 (by omega)).mono ?_); rintro e w3 ⟨a3, c3, rfl, hown3, hb3⟩; have hB3 := hB2.trans (hb3.mono hz2); have hz3 := hB3.size; have hX3 := hX2.belowN hb3; have h4 := h3.belowN hb3; obtain ⟨r0, r1, r2, r3⟩ := hX3.c2; obtain ⟨b7, off7, hba, y0, _⟩ := getOp_eq h4 (Below.refl _ _) HX.out; subst hba))
      | (go_at_call 10; (with_reducible refine (goes20_calls _).mono ?_); rintro e w8 ⟨rfl, hbel8⟩)
      | (at_make; refine wpList_mk tyI0 (B := w.heap.size) (n := bn + 1) rfl rfl rfl rfl (by first | exact BE.out | omega) (by first | exact BE.out | omega) (by omega) (by omega) ?_; intro w4 hown4 hg4; have hb4 := below_of_grown hg4; have hB4 := hB3.trans (hb4.mono hz3); have hz4 := hB4.size))
    have hb34 := hb4
    have hR3 := hown3.at_
    have hO4 : Own w4 w.heap.size 3 (some ⟨w3.heap.size, 0, none⟩) (bn + 1) (List.replicate bn (0 : Int) ++ [0]) := by
      have e : List.replicate bn (0 : Int) ++ [0] = List.replicate (bn + 1) 0 := by rw [List.replicate_succ']
      rw [e]; exact hown4
    have i3 : ¬ ((f.flat.length : Int) ≤ (i : Int)) := by omega
    have m1 : ((m : Int) != (m : Int)) = false := by simp
    have hu0 : ∀ k : Nat, k ≤ 50 → IntKind.u64.wrap (k : Int) = (k : Int) := fun k hk => IntWalk.u64_in _ (by omega)
    clear hown4 hown3 hg4 hb4 hB1 hB2 hz1 hz2 hown2 hb2 p0 p2 p3 q0 q2 q3
    go_loopw [10, 11, 12, 13, 14] (fun lv kv _ _ _ wr => ∃ (k : Nat) (y : Int), kv = .int .i64 k ∧ k ≤ 50 ∧ Hid (k = 0 ∧ lv = .int .i64 (-1) ∨ G = 0 ∧ 1 ≤ k ∧ k ≤ x.v.toNat ∧ lv = .int .i64 (T (k - 1) + m)) ∧ Own wr w.heap.size 3 (some ⟨w3.heap.size, 0, none⟩) (bn + 1) (List.replicate bn (0 : Int) ++ [y]) ∧ Below w3.heap.size w3 wr) (fun _ kv _ _ _ _ => 50 - (intOf kv).toNat)
    case atStart => exact ⟨0, 0, rfl, by omega, .inl ⟨rfl, rfl⟩, hO4, hb34⟩
    case round =>
      obtain ⟨k, y, rfl, hk, hlast, hown, hbr⟩ := hrel
      have hXr := hX3.belowN hbr
      have hr4 := h4.belowN hbr
      have hBr := hB3.trans (hbr.mono hz3)
      have hzr := hBr.size
      obtain ⟨p0, p1, p2, p3⟩ := hXr.c2
      obtain ⟨b8, off8, hba, z0, z1, z2, z3, z4⟩ := getOp_eq hr4 (Below.refl _ _) HX.out
      injection hba with hba
      injection hba with hba hbo _
      subst hba hbo
      have hu1 := hu0 k hk
      have k0 : (0 : Int) ≤ (k : Int) := by omega
      rcases Nat.lt_or_ge k 50 with hk5 | hk5
      · have f1 : (k : Int) < 50 := by omega
        rcases Nat.lt_or_ge k x.v.toNat with hkv | hkv
        · have f2 : (k : Int) < (x.v.toNat : Int) := by omega
          have hset : (List.replicate bn (0 : Int) ++ [y]).set bn (k : Int) = List.replicate bn (0 : Int) ++ [(k : Int)] := by
            rw [List.set_append_right _ _ (by simp)]; simp
          have hns := hown.set1 bn (k : Int) (.int .i64 (k : Int)) rfl
          rw [hset] at hns
          have g0 : wr.cell? ⟨w3.heap.size, bn, none⟩ = some (.int .i64 y) := by simpa [Flat.n] using hown.cellAt (i := bn) (x := y) (by simp) (f := 0) rfl
          have g1 := hown.frozen bn
          have hb5 : Below w3.heap.size w3 (wr.setCell ⟨w3.heap.size, bn, none⟩ (.int .i64 (k : Int))) := hbr.setCell (p := ⟨w3.heap.size, bn, none⟩) (Nat.le_refl _) _
          have hz5 := hb5.size
          have h5 := h4.belowN hb5
          have hna := hns.at_
          obtain ⟨p4, p5, p6, p7⟩ := (hX3.belowN hb5).c2
          have hrs : ∀ r ∈ List.replicate bn (0 : Int) ++ [(k : Int)], -9223372036854775808 ≤ r ∧ r ≤ 9223372036854775807 := fun r hr => by
            rcases List.mem_append.1 hr with hr | hr
            · have := (List.mem_replicate.1 hr).2; omega
            · have := List.mem_singleton.1 hr; omega
          have HRS := hide hrs
          have hlen : bn + 1 = (List.replicate bn (0 : Int) ++ [(k : Int)]).length := by simp
          have HLEN := hide hlen
          have hseg := HD3.out k hkv
          have HD4k := HD4
          clear hset hrs hlen
          by_cases hG : G = 0
          · subst hG
            rw [if_pos rfl] at hseg
            have HSG := hide hseg
            obtain ⟨t1, t2, t3⟩ := HD4.out rfl k hkv
            have BT : IntKind.i64.wrap (T k + (m : Int) - T k) = (m : Int) := by rw [IntWalk.i64_in _ (by omega)]; omega
            obtain ⟨b9, off9, hba9, u0⟩ := getI_at hR3 HRR.out
            subst hba9
            have hlt9 := World.block_lt_of_cell? _ _ u0
            have v1 : (T k + (m : Int) ≥ 0) := by omega
            have v2 : (T k ≥ 0) := by omega
            have v3 : (T k != T k) = false := by simp
            obtain ⟨lv, hlv, hlc⟩ : ∃ z, u10 = .int .i64 z ∧ (k = 0 ∧ z = -1 ∨ z = T k) := by
              rcases hlast.out with ⟨hk0, rfl⟩ | ⟨hG0, q1, q2, rfl⟩
              · exact ⟨-1, rfl, .inl ⟨hk0, rfl⟩⟩
              · refine ⟨_, rfl, .inr ?_⟩
                have := (HD4.out rfl (k - 1) (by omega)).2.2 (by omega)
                rw [show k - 1 + 1 = k by omega] at this
                exact this.symm
            subst hlv
            obtain ⟨V, hV⟩ : ∃ V, T k = V := ⟨_, rfl⟩
            obtain ⟨U, hU⟩ : ∃ U, V + (m : Int) = U := ⟨_, rfl⟩
            rw [hV, hU] at hseg BT v1
            rw [hV] at v2 v3 t1 t2 hlc
            have HSG := hide hseg
            have HU := hide (show U = T (k + 1 - 1) + (m : Int) by rw [Nat.add_sub_cancel, hV, hU])
            clear hseg hlast HD4 HD4k hU hV
            have hlc2 : lv = -1 ∨ lv = V := hlc.imp (fun h => h.2) id
            clear hlc
            rcases hlc2 with rfl | rfl
            all_goals
              go_wp2_with (go_at_call 16; go_must (refine (SegmentN regs _ c _ f.flat rfl i _ (bn + 1) _ _ HLEN.out HRS.out _ _ _ HSG.out _ h5 (by omega) hna (by omega)).mono ?_; rintro e w6 ⟨rfl, hb6⟩; have hB6 := hb5.trans (hb6.mono hz5); obtain ⟨j0, j1⟩ := bcell hB6; have j2 := (j0 b9 (off9 + i) hlt9).trans u0))
              go_roundw
              case rel => exact ⟨k + 1, k, by go_num, by omega, .inr ⟨trivial, by omega, by omega, by rw [← HU.out]⟩, hns.belowN hb6, hB6⟩
              case measure => simp [intOf]; omega
          · rw [if_neg hG] at hseg
            have HSG := hide hseg
            rcases hlast.out with ⟨hk0, rfl⟩ | ⟨hG0, _⟩
            case inr => exact absurd hG0 hG
            by_cases hG2 : G = 2
            · subst hG2
              clear hseg hG hk0 hlast HD4 HD4k
              go_wp2_with (first
                | (go_at_call 16; go_must (refine (SegmentN regs _ c _ f.flat rfl i _ (bn + 1) _ _ HLEN.out HRS.out _ _ _ HSG.out _ h5 (by omega) hna (by omega)).mono ?_; rintro e w6 ⟨rfl, hb6⟩; have hB6 := hb5.trans (hb6.mono hz5)))
                | (go_at_call 10; (with_reducible refine (goes20_calls _).mono ?_); rintro e w8 ⟨rfl, hbel8⟩))
              go_ret
              have hBe := hB3.trans (hB6.mono hz3)
              exact ⟨rfl, hBe.trans (hbel8.mono hBe.size)⟩
            · have v1 : (G == 2) = false := by simpa using hG2
              have v2 : (G != 0) = true := by simpa using hG
              have v3 : (G == 0) = false := by simpa using hG
              have v4 : ((k : Int) == 0) = true := by simp [hk0]
              clear hseg hG hG2 hk0 hlast HD4 HD4k
              go_wp2_with (first
                | (go_at_call 16; go_must (refine (SegmentN regs _ c _ f.flat rfl i _ (bn + 1) _ _ HLEN.out HRS.out _ _ _ HSG.out _ h5 (by omega) hna (by omega)).mono ?_; rintro e w6 ⟨rfl, hb6⟩; have hB6 := hb5.trans (hb6.mono hz5)))
                | (go_at_call 10; (with_reducible refine (goes20_calls _).mono ?_); rintro e w8 ⟨rfl, hbel8⟩))
              go_ret
              have hBe := hB3.trans (hB6.mono hz3)
              exact ⟨rfl, hBe.trans (hbel8.mono hBe.size)⟩
        · have f2 : ¬ ((k : Int) < (x.v.toNat : Int)) := by omega
          rcases hlast.out with ⟨_, rfl⟩ | ⟨_, _, _, rfl⟩
          all_goals
            go_wp2_with (go_at_call 10; (with_reducible refine (goes20_calls _).mono ?_); rintro e w8 ⟨rfl, hbel8⟩)
            go_ret
            exact ⟨rfl, hBr.trans (hbel8.mono hzr)⟩
      · have f1 : ¬ ((k : Int) < 50) := by omega
        rcases hlast.out with ⟨hk0, rfl⟩ | ⟨_, _, _, rfl⟩
        · exact absurd hk0 (by omega)
        · go_wp2_with (go_at_call 10; (with_reducible refine (goes20_calls _).mono ?_); rintro e w8 ⟨rfl, hbel8⟩)
          go_ret
          exact ⟨rfl, hBr.trans (hbel8.mono hzr)⟩
end Go.Proofs.Ytokkidelbbegjaa
