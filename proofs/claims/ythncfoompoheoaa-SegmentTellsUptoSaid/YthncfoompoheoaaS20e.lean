/- Chapter 20: Segment. -/
import Derived.Test.YthncfoompoheoaaS20d
import Derived.Test.YthncfoompoheoaaPk
import Derived.Deep.RegionHeld3
namespace Go.Proofs.Ythncfoompoheoaa
set_option linter.unusedVariables false
set_option linter.unusedSimpArgs false
open Go.RowKit
theorem setLast (l : List Int) (x : Int) (h : l ≠ []) : l.set (l.length - 1) x = l.dropLast ++ [x] := by
  obtain ⟨y, hy⟩ : ∃ y, l = l.dropLast ++ [y] := ⟨l.getLast h, (List.dropLast_concat_getLast h).symm⟩
  rw [hy]
  simp
set_option maxRecDepth 100000 in
set_option maxHeartbeats 3200000 in
theorem begin20_calls (q : Nat) (f : Fo) (hf : f.ok) (hm : f.may = true) (hw : f.wr ≤ 65536) (hl : f.flat.length ≤ 4096) (i : Nat) (hi : i < f.size) (bs : List Int) (hbs : Fo.pth 0 f (i + 1) = bs ++ [(i : Int)]) (bn : Nat) (hbn : bn = bs.length) (hbl : bn ≤ 4096) (rs : List Int) (rn : Nat) (hrn : rn = rs.length) (hbr : rn = bn + 1) (r : Int) (hp : f.prd (i + 1) (rs.dropLast ++ [r])) (R : Int) (hR : f.plc (i + 1) (rs.dropLast ++ [r]) = R)
    (b5 b9 b4 b10 : Nat) (ra ba : Option Addr) (rc bc : Nat) (W0 W : World) (hWB : Below W0.heap.size W0 W) (h5 : Blk W0 b5 25 #[.slice ra rn rc]) (hr : At W0 ra rs) (h9 : Blk W0 b9 100 #[.pointer (some ⟨q, 0, none⟩)]) (hq : PlanAt W0 q f) (h4 : Blk W0 b4 3 #[.int .i64 i])
    (h10 : Blk W b10 25 #[.slice ba bn bc]) (ho : Own W W0.heap.size 3 ba bc bs) (hne : ba.map (·.block) ≠ some b10) :
    Calls Try.prog 70 #[.int .i64 r, .pointer (some ⟨b5, 0, none⟩), .pointer (some ⟨b9, 0, none⟩), .pointer (some ⟨b4, 0, none⟩), .pointer (some ⟨b10, 0, none⟩)] W fun e w' => e = .returned (.int .i64 R) ∧ Below W0.heap.size W0 w' ∧ Own w' W0.heap.size 3 ba bc bs ∧ Blk w' b10 25 #[.slice ba bn bc] := by
  have hW := hWB.size
  have H5 := h5.below hWB h5.lt
  have H9 := h9.below hWB h9.lt
  have H4 := h4.below hWB h4.lt
  have HRr : At W ra rs := hr.below hWB (Nat.le_refl _)
  have hl5 := H5.lt
  have hl9 := H9.lt
  have hl4 := H4.lt
  have hl5' := h5.lt
  have hl9' := h9.lt
  have hl4' := h4.lt
  have hl10 := h10.lt
  have HBN := hide hbn
  have HRN := hide hrn
  have HBS := hide hbs
  have HP := hide hp
  have HR := hide hR
  have hrne : rs ≠ [] := by intro e; rw [e] at hrn; simp at hrn; omega
  have HSL := hide (setLast rs r hrne)
  have hn0 : Own (W.alloc (.cells #[] 3)) W.heap.size 3 (some ⟨W.heap.size, 0, none⟩) 0 ([] : List Int) := Own.new W (Nat.le_refl _) 3 Int
  obtain ⟨p0, p1⟩ := H5.c1
  have HNE := hide hne
  have hrn1 : rn ≤ 5000 := by omega
  have hrn0 : 1 ≤ rn := by omega
  have hbr1 : rn ≤ bn + 1 := by omega
  have hbr2 : bn + 1 ≤ rn := by omega
  clear hbn hrn hbs hp hR hrne hne hbr
  go_enter Try.func70, Try.ntmps70
  go_wp2_with (at_builtin; go_must (refine wpList_pushAll tyI hn0 (l2 := rs) (HRr.belowN (below_new12 W _)) rfl rfl rfl rfl rfl HRN.out (by simp) (by omega) (by omega) ?_; intro a1 c1 w1 hown1 hg1 hm1; rw [List.nil_append] at hown1; have hb1 := below_push (below_new12 W (.cells #[] 3)) hn0 hg1 (by simp); obtain ⟨g1, rfl, hgB, hgl⟩ := hown1.some_ (fun e => by have := HRN.out; rw [e] at this; simp at this; omega); have hfz1 := hown1.frozen (rn - 1); have hset1 := hown1.set1 (rn - 1) r (.int .i64 r) rfl; obtain ⟨vv, hvv⟩ : ∃ v, rs[rn - 1]? = some v := ⟨_, List.getElem?_eq_getElem (by have := HRN.out; omega)⟩; have hcv1 : w1.cell? ⟨g1, rn - 1, none⟩ = some (.int .i64 vv) := (by simpa [Flat.n] using hown1.cellAt hvv (f := 0) rfl); clear hvv))
  have hrs1 : rs.set (rn - 1) r = rs.dropLast ++ [r] := by rw [HRN.out]; exact HSL.out
  rw [hrs1] at hset1
  obtain ⟨W1, hW1⟩ : ∃ W1, W1 = w1.setCell ⟨g1, rn - 1, none⟩ (.int .i64 r) := ⟨_, rfl⟩
  have hT1 : Turned [g1] W W1 := by rw [hW1]; exact (Turned.ofBelow (F := [g1]) hb1).trans (Turned.ofGrown (F := [g1]) (grown_setCell _ g1 _ _) (fun k hk => .inl (by injection hk with hk; simp [hk]))) (fun k hk => .inl hk)
  rw [← hW1] at hset1 ⊢
  have hBW1 : Below W.heap.size W W1 := Turned.below (Below.refl _ _) hT1 (by simp; omega) (Nat.le_refl _)
  have hB1 := hWB.trans (hBW1.mono hW)
  have hz1 := hB1.size
  have G9 := H9.belowN hBW1
  have G4 := H4.belowN hBW1
  have G10 := h10.belowN hBW1
  have hob := ho.belowN hBW1
  have hqq := hq.belowN hB1
  have hl9 := G9.lt
  have hl4 := G4.lt
  have hl10 := G10.lt
  obtain ⟨q0, q1⟩ := G9.c1
  obtain ⟨q2, q3⟩ := G4.c1
  obtain ⟨q4, q5⟩ := G10.c1
  have hn2 := (Below.drew (Below.refl W1.heap.size W1)).alloc (Nat.le_refl _) (.cells #[.int .i64 (i : Int)] 3)
  have hoN := hob.belowN hn2
  have hsN : At (W1.drew.alloc (.cells #[.int .i64 (i : Int)] 3)) (some ⟨W1.heap.size, 0, none⟩) [(i : Int)] := At.ofBlk (Blk.new W1.drew _ #[.int .i64 (i : Int)]) [(i : Int)] rfl
  have hiw : IntKind.i64.wrap ((i : Int) + 1) = (i : Int) + 1 := IntWalk.i64_in _ (by unfold Fo.size at hi; omega)
  have hown1N := hset1.belowN hn2
  have hg1ne : g1 < W1.heap.size := by have := hset1.blk g1 rfl; exact this.2
  have HDL := hide (show rn = (rs.dropLast ++ [r]).length by rw [← hrs1, List.length_set]; exact HRN.out)
  have HIS := hide (show i + 1 ≤ f.size by omega)
  have HB1N := hide (hB1.trans (hn2.mono hz1))
  have G9N := G9.belowN hn2
  have G4N := G4.belowN hn2
  have G10N := G10.belowN hn2
  clear hW1 hT1 hrs1 hown1 hcv1 hfz1 hb1 hg1
  go_region_held3 (fun w' => w'.cell? ⟨b9, 0, none⟩ = some (.pointer (some ⟨q, 0, none⟩)) ∧ w'.cell? ⟨b4, 0, none⟩ = some (.int .i64 (i : Int)) ∧ w'.cell? ⟨b10, 0, none⟩ = some (.slice ba bn bc)) (go_keep)
    (first
      | (refine step_pushK tyI hoN hsN rfl rfl rfl rfl HBN.out rfl (by simp; omega) (by omega) (by simp) ?_; intro a3 c3 w3 hown3 hkep3 hg3; have hB3 := Below.grown HB1N.out hg3 (by simp; omega) (fun k hk => (hoN.blk k hk).1); have hz3 := hB3.size; obtain ⟨r0, r1⟩ := (G9N.grown hg3 (fun e => by have := (hoN.blk _ e.symm).1; omega)).c1; obtain ⟨r2, r3⟩ := (G4N.grown hg3 (fun e => by have := (hoN.blk _ e.symm).1; omega)).c1; have G10M := (G10N.grown hg3 (fun e => HNE.out e.symm)); obtain ⟨r4, r5⟩ := G10M.c1; have hra3 : At w3 (some ⟨g1, 0, none⟩) (rs.dropLast ++ [r]) := hown1N.at_.grown hg3 (fun _ => .inl (fun e => by have h1 := (ho.blk g1 (by rw [← e]; rfl)).2; omega)); have hpth3 : At w3 a3 (Fo.pth 0 f (i + 1)) := (by rw [HBS.out]; exact hown3.at_))
      | (go_at_call 62; go_must (refine (place_calls q f hf hm hw (i + 1) HIS.out _ (by simp) _ _ (bn + 1) _ rn _ (rs.dropLast ++ [r]) (by rw [HBS.out]; simp [HBN.out.symm]) HDL.out (by omega) HP.out R HR.out hl (by omega) _ (hq.belowN hB3) hpth3 hra3).mono ?_; rintro e w4 ⟨rfl, d4, rfl⟩)))
  go_wp2
  go_ret
  exact ⟨rfl, below_drewN hB3 _, hkep3.drewN _, G10M.drewN _⟩
theorem rgt_last {l : List OpD} : ∀ (bs rs : List Int) (b : Int), rgt l (bs ++ [b]) rs = true → ∃ v, rs.getLast? = some v ∧ 0 ≤ v ∧ v < ((vAt l b).toNat : Int)
  | [], [], b, h => by simp [rgt] at h
  | [], [r], b, h => by simp [rgt] at h; exact ⟨r, rfl, h.1, h.2⟩
  | [], r1 :: r2 :: rs, b, h => by simp [rgt] at h
  | c :: bs, [], b, h => by simp [rgt] at h
  | c :: bs, r :: rs, b, h => by
    rw [List.cons_append, rgt] at h
    simp only [Bool.and_eq_true] at h
    obtain ⟨v, h1, h2, h3⟩ := rgt_last bs rs b h.2
    refine ⟨v, ?_, h2, h3⟩
    cases rs with
    | nil => simp at h1
    | cons y t => rw [List.getLast?_cons_cons]; exact h1
/-- does a block begin at a place? -/
def repAt (l : List OpD) (i : Int) : Bool := match l[i.toNat]? with | some x => decide (x.kind = 7) | none => false
/-- the writes of a round -/
noncomputable def segS (regs : Int) (l : List OpD) (i : Int) (rs : List Int) : Int × Int × Int :=
  if checkS regs l ≠ 0 then (0, 0, checkS regs l) else if i < 0 ∨ (l.length : Int) ≤ i then (0, 0, 2) else if repAt l i = true ∧ rgt l ((aroundS l i).1 ++ [i]) rs = true then ((fo l).plc (i.toNat + 1) rs, (fo l).plc (i.toNat + 1) rs + ((fo l).rounds[i.toNat]?).getD 0, 0) else (0, 0, 2)
set_option maxRecDepth 100000 in
set_option maxHeartbeats 3200000 in
theorem Segment_calls (regs : Int) (a : Option Addr) (c : Nat) (l : List OpD) (i : Int) (ra : Option Addr) (rn rc : Nat) (rs : List Int) (hrn : rn = rs.length) (hrs : ∀ r ∈ rs, -9223372036854775808 ≤ r ∧ r ≤ 9223372036854775807) (V U E : Int) (hV : segS regs l i rs = (V, U, E)) (w : World) (h : At w a l) (hl : l.length ≤ 1000000) (hr : At w ra rs) (hrl : rn ≤ 1000000) :
    Calls Try.prog 22 #[.agg #[.int .i64 regs, .slice a l.length c], .int .i64 i, .slice ra rn rc] w fun e w' => e = .returned (.tuple #[.int .i64 V, .int .i64 U, .int .i64 E]) ∧ Below w.heap.size w w' := by
  have hb0 := ((below_new12 w (.cells #[.int .i64 regs, .slice a l.length c] 24)).alloc (by simp) (.cells #[.int .i64 i] 3)).alloc (by simp; omega) (.cells #[.slice ra rn rc] 25)
  have hX := ((Blk.new w 24 #[.int .i64 regs, .slice a l.length c]).alloc (.cells #[.int .i64 i] 3)).alloc (.cells #[.slice ra rn rc] 25)
  have hI := (Blk.new (w.alloc (.cells #[.int .i64 regs, .slice a l.length c] 24)) 3 #[.int .i64 i]).alloc (.cells #[.slice ra rn rc] 25)
  have hR := Blk.new ((w.alloc (.cells #[.int .i64 regs, .slice a l.length c] 24)).alloc (.cells #[.int .i64 i] 3)) 25 #[.slice ra rn rc]
  simp only [World.size_alloc] at hI hR
  have h1 := h.belowN hb0
  have hr1 := hr.belowN hb0
  have HRS := hide hrs
  have HRN := hide hrn
  unfold segS at hV
  clear hrs hrn
  by_cases hc : checkS regs l = 0
  case neg =>
    rw [if_pos hc] at hV
    injection hV with hv1 hv2
    injection hv2 with hv2 hv3
    subst hv1 hv2
    have HO := hide (of_bad regs a c l E hv3 (by rw [← hv3]; exact hc) _ h1 hl)
    have e1 : (E == 0) = false := by rw [← hv3]; simpa using hc
    have e2 : (E != 0) = true := by rw [← hv3]; simpa using hc
    clear hv3 hc
    go_enter Try.func22, Try.ntmps22
    go_wp2_with (go_at_call 58; go_must ((with_reducible refine (HO.out).mono ?_); rintro e w1 ⟨rfl, hb1⟩; have hB1 := hb0.trans (hb1.mono hb0.size); have hz1 := hB1.size))
    go_ret3
    exact ⟨rfl, hB1.alloc hz1 _⟩
  rw [if_neg (by rw [hc]; simp)] at hV
  obtain ⟨f, rfl, g⟩ := good_of_check hc
  have hfl : f.flat.length ≤ 4096 := g.len
  have HG := hide g
  have HO := hide (of_good regs a c f g _ h1)
  clear hc g
  by_cases hi : i < 0 ∨ (f.flat.length : Int) ≤ i
  · rw [if_pos hi] at hV
    injection hV with hv1 hv2
    injection hv2 with hv2 hv3
    subst hv1 hv2 hv3
    have HA := hide (around_out HG.out.ok hi)
    clear hi
    go_enter Try.func22, Try.ntmps22
    go_wp2_with (first
      | (go_at_call 58; go_must ((with_reducible refine (HO.out).mono ?_); rintro e w1 ⟨q, rfl, hP1, hq1, hb1⟩; have hn1 := below_new12 w1 (.cells #[.pointer (some ⟨q, 0, none⟩)] 100); have hb2 := hb1.trans (hn1.mono hb1.size); have hX1 := hX.belowN hb2; have hI1 := hI.belowN hb2; have hB1 := hb0.trans (hb2.mono hb0.size); have hz1 := hB1.size; have h2 := h1.belowN hb2; obtain ⟨p0, p1, p2, p3⟩ := hX1.c2; obtain ⟨p4, p5⟩ := hI1.c1))
      | (go_at_call 59; go_must ((with_reducible refine (AroundQ a c f.flat i _ [] 2 0 rfl HA.out h2 (by omega)).mono ?_); rintro e w2 ⟨a2, c2, rfl, hown2, hb3⟩; have hB2 := hB1.trans (hb3.mono hz1); have hz2 := hB2.size)))
    go_ret3
    exact ⟨rfl, hB2.alloc hz2 _⟩
  rw [if_neg hi] at hV
  obtain ⟨k, rfl⟩ : ∃ k : Nat, i = k := ⟨i.toNat, by omega⟩
  have hk : k < f.flat.length := by omega
  obtain ⟨x, hx⟩ : ∃ x, f.flat[k]? = some x := ⟨_, List.getElem?_eq_getElem hk⟩
  have hA := around_good HG.out.ok hx
  have hw : repAt f.flat (k : Int) = decide (x.kind = 7) := by unfold repAt; simp only [Int.toNat_natCast]; rw [hx]
  rw [hw, hA] at hV
  simp only [Int.toNat_natCast, decide_eq_true_eq] at hV
  obtain ⟨bs, hbs⟩ : ∃ bs, bs = encl 0 f k := ⟨_, rfl⟩
  rw [← hbs] at hA hV
  have hbsl0 : bs.length ≤ f.size := by rw [hbs]; exact encl_length f 0 k
  have hbsl : bs.length ≤ 4096 := Nat.le_trans hbsl0 hfl
  obtain ⟨bn, hbn⟩ : ∃ bn, bn = bs.length := ⟨_, rfl⟩
  rw [← hbn] at hbsl
  have HA := hide hA
  have HBN := hide hbn
  have HX := hide hx
  have i0 : (0 : Int) ≤ (k : Int) := by omega
  have i1 : (k : Int) < (f.flat.length : Int) := by omega
  clear hA hw
  by_cases h7 : x.kind = 7
  case neg =>
    rw [if_neg (fun h => h7 h.1)] at hV
    injection hV with hv1 hv2
    injection hv2 with hv2 hv3
    subst hv1 hv2 hv3
    have k7 : (x.kind == 7) = false := by simpa using h7
    have n7 : (x.kind != 7) = true := by simpa using h7
    clear hbs hbn hi hx h7
    go_enter Try.func22, Try.ntmps22
    go_wp2_with (first
      | (go_at_call 58; go_must ((with_reducible refine (HO.out).mono ?_); rintro e w1 ⟨q, rfl, hP1, hq1, hb1⟩; have hn1 := below_new12 w1 (.cells #[.pointer (some ⟨q, 0, none⟩)] 100); have hb2 := hb1.trans (hn1.mono hb1.size); have hX1 := hX.belowN hb2; have hI1 := hI.belowN hb2; have hB1 := hb0.trans (hb2.mono hb0.size); have hz1 := hB1.size; have h2 := h1.belowN hb2; obtain ⟨p0, p1, p2, p3⟩ := hX1.c2; obtain ⟨p4, p5⟩ := hI1.c1))
      | (go_at_call 59; go_must ((with_reducible refine (AroundQ a c f.flat _ _ bs 0 bn HBN.out HA.out h2 (by omega)).mono ?_); rintro e w2 ⟨a2, c2, rfl, hown2, hb3⟩; have hn3 := below_new12 w2 (.cells #[.slice a2 bn c2] 25); have hb4 := hb3.trans (hn3.mono hb3.size); have hX2 := hX1.belowN hb4; have hI2 := hI1.belowN hb4; have hB2 := hB1.trans (hb4.mono hz1); have hz2 := hB2.size; obtain ⟨b1, off1, hba, x0, x1, x2, x3, x4⟩ := getOp_eq (h2.belowN hb4) (Below.refl _ _) HX.out; subst hba; obtain ⟨q0, q1, q2, q3⟩ := hX2.c2; obtain ⟨q4, q5⟩ := hI2.c1)))
    go_quiet (fail)
    go_wp2
    go_ret3
    exact ⟨rfl, below_drewN hB2 _⟩
  obtain ⟨hep, hep7⟩ := f.encl_pth HG.out.ok 0 k x hx (by omega)
  have hpt := hep7 h7
  rw [← hep, ← hbs, Nat.zero_add] at hpt
  have hST := Stands.whole HG.out.ok
  have hin : ∀ b ∈ bs ++ [(k : Int)], 0 ≤ b ∧ b.toNat < f.flat.length := pth_in _ f 0 (k + 1) hST hpt
  have hrr := rgt_rok (bs ++ [(k : Int)]) f 0 (k + 1) rs hST (by unfold Fo.size; omega) hpt
  have HIN := hide hin
  have HPT := hide hpt
  have hkf : k < f.size := by unfold Fo.size; exact hk
  rcases place9 HG.out.ok hx with ⟨_, b, fin, r, hs, g1, g2, g3⟩ | ⟨h0, _⟩ | ⟨_, h6, _⟩
  case inr.inl => omega
  case inr.inr => omega
  have HSB := hide hs
  have HG2 := hide g2
  obtain ⟨B, hB⟩ : ∃ B, rgt f.flat (bs ++ [(k : Int)]) rs = B := ⟨_, rfl⟩
  have HB := hide hB
  rw [hB] at hrr
  have HBN1 := hide (show bn + 1 = (bs ++ [(k : Int)]).length by rw [List.length_append, ← hbn]; rfl)
  have k7 : (x.kind == 7) = true := by simpa using h7
  have n7 : (x.kind != 7) = false := by simpa using h7
  cases B with
  | false =>
    rw [if_neg (by rw [hB]; simp)] at hV
    injection hV with hv1 hv2
    injection hv2 with hv2 hv3
    subst hv1 hv2 hv3
    clear hbs hbn hi hx hep hep7 hin hrr hB hpt h7 g1 g2 g3 hs
    go_enter Try.func22, Try.ntmps22
    go_wp2_with (first
      | (go_at_call 58; go_must ((with_reducible refine (HO.out).mono ?_); rintro e w1 ⟨q, rfl, hP1, hq1, hb1⟩; have hn1 := below_new12 w1 (.cells #[.pointer (some ⟨q, 0, none⟩)] 100); have hb2 := hb1.trans (hn1.mono hb1.size); have hX1 := hX.belowN hb2; have hI1 := hI.belowN hb2; have hR1 := hR.belowN hb2; have hQ1 := Blk.new w1 100 #[.pointer (some ⟨q, 0, none⟩)]; have hB1 := hb0.trans (hb2.mono hb0.size); have hz1 := hB1.size; have h2 := h1.belowN hb2; have hr2 := hr1.belowN hb2; have hP2 := hP1.belowN hn1; obtain ⟨p0, p1, p2, p3⟩ := hX1.c2; obtain ⟨p4, p5⟩ := hI1.c1))
      | (go_at_call 59; go_must ((with_reducible refine (AroundQ a c f.flat _ _ bs 0 bn HBN.out HA.out h2 (by omega)).mono ?_); rintro e w2 ⟨a2, c2, rfl, hown2, hb3⟩; have hn3 := below_new12 w2 (.cells #[.slice a2 bn c2] 25); have hb4 := hb3.trans (hn3.mono hb3.size); have hX2 := hX1.belowN hb4; have hI2 := hI1.belowN hb4; have hR2 := hR1.belowN hb4; have hQ2 := hQ1.belowN hb4; have hA2 := Blk.new w2 25 #[.slice a2 bn c2]; have hB2 := hB1.trans (hb4.mono hz1); have hz2 := hB2.size; have hown3 := hown2.belowN hn3; obtain ⟨b1, off1, hba, x0, x1, x2, x3, x4⟩ := getOp_eq (h2.belowN hb4) (Below.refl _ _) HX.out; subst hba; obtain ⟨q0, q1, q2, q3⟩ := hX2.c2; obtain ⟨q4, q5⟩ := hI2.c1; obtain ⟨q6, q7⟩ := hR2.c1; obtain ⟨q8, q9⟩ := hQ2.c1; obtain ⟨q10, q11⟩ := hA2.c1)))
    obtain ⟨W1, hW1⟩ : ∃ W1, W1 = w1.alloc (.cells #[.pointer (some ⟨q, 0, none⟩)] 100) := ⟨_, rfl⟩
    obtain ⟨W2, hW2⟩ : ∃ W2, W2 = w2.alloc (.cells #[.slice a2 bn c2] 25) := ⟨_, rfl⟩
    rw [← hW1] at hP2 hX1 hI1 hR1 hQ1 hB1 hz1 h2 hr2 hb4 hown3
    rw [← hW2] at hX2 hI2 hR2 hQ2 hA2 hB2 hz2 hown3 hb4 q0 q1 q2 q3 q4 q5 q6 q7 q8 q9 q10 q11 x0 x1 x2 x3 x4 ⊢
    have hla := hA2.lt
    have hlq := hQ2.lt
    have hlr := hR2.lt
    have hli := hI2.lt
    have hlb := World.block_lt_of_cell? _ _ x0
    have hW12 : W1.heap.size ≤ W2.heap.size := hb4.size
    have hne2 : a2.map (·.block) ≠ some w2.heap.size := fun e => by have := (hown2.blk _ e).2; omega
    have HNE := hide hne2
    have hn5 := (Below.drew (Below.refl W2.heap.size W2)).alloc (Nat.le_refl _) (.cells #[.int .i64 (k : Int)] 3)
    have hoN := hown3.belowN hn5
    have hsN : At (W2.drew.alloc (.cells #[.int .i64 (k : Int)] 3)) (some ⟨W2.heap.size, 0, none⟩) [(k : Int)] := At.ofBlk (Blk.new W2.drew _ #[.int .i64 (k : Int)]) [(k : Int)] rfl
    have X5 := hX2.belowN hn5
    have I5 := hI2.belowN hn5
    have R5 := hR2.belowN hn5
    have Q5 := hQ2.belowN hn5
    have A5 := hA2.belowN hn5
    have HB5 := hide (hb4.trans (hn5.mono hW12))
    have HRW := hide hr2
    have HPW := hide hP2
    have hx1 := hX1.lt
    have hx2 := hI1.lt
    have hx3 := hR1.lt
    have hx4 := hQ1.lt
    have HXK := hide (show ∀ W', Below W1.heap.size W1 W' → W'.cell? ⟨b1, off1 + k * 5, none⟩ = some (.int .i64 x.kind) from fun W' hb => by
      obtain ⟨b1', off1', hba, y0, _⟩ := getOp_eq (h2.belowN hb) (Below.refl _ _) HX.out
      injection hba with hba
      injection hba with e1 e2 _
      rw [e1, e2]; exact y0)
    clear hW1 hW2 hne2 hb2 hb3 hn1 hn3 hown2 p0 p1 p2 p3 p4 p5
    go_region_held3 (fun w' => w'.cell? ⟨w.heap.size, 1, none⟩ = some (.slice (some ⟨b1, off1, none⟩) f.flat.length c) ∧ w'.cell? ⟨w.heap.size + 1, 0, none⟩ = some (.int .i64 (k : Int)) ∧ w'.cell? ⟨b1, off1 + k * 5, none⟩ = some (.int .i64 x.kind) ∧ w'.cell? ⟨w1.heap.size, 0, none⟩ = some (.pointer (some ⟨q, 0, none⟩)) ∧ w'.cell? ⟨w2.heap.size, 0, none⟩ = some (.slice a2 bn c2) ∧ w'.cell? ⟨w.heap.size + 1 + 1, 0, none⟩ = some (.slice (ra) rn rc)) (go_keep)
      (first
        | (refine step_pushK tyI hoN hsN rfl rfl rfl rfl HBN.out rfl (by simp; omega) (by omega) (by simp) ?_; intro a6 c6 w6 hown6 hkep6 hg6; have hB6 := Below.grown HB5.out hg6 (by simp; omega) (fun k hk => (hoN.blk k hk).1); have hz6 := hB6.size; have X6 := X5.grown hg6 (fun e => by have := (hoN.blk _ e.symm).1; omega); have I6 := I5.grown hg6 (fun e => by have := (hoN.blk _ e.symm).1; omega); have R6 := R5.grown hg6 (fun e => by have := (hoN.blk _ e.symm).1; omega); have Q6 := Q5.grown hg6 (fun e => by have := (hoN.blk _ e.symm).1; omega); have A6 := A5.grown hg6 (fun e => HNE.out e.symm); obtain ⟨y0, y1, y2, y3⟩ := X6.c2; obtain ⟨y4, y5⟩ := I6.c1; obtain ⟨y6, y7⟩ := R6.c1; obtain ⟨y8, y9⟩ := Q6.c1; obtain ⟨y10, y11⟩ := A6.c1; have y12 := HXK.out w6 hB6)
        | (go_at_call 61; go_must (refine (right_calls q f _ _ (bn + 1) _ rn _ (bs ++ [(k : Int)]) rs HBN1.out HRN.out false HB.out HIN.out HRS.out hfl (by omega) hrl _ (HPW.out.belowN hB6) hown6.at_ (HRW.out.belowN hB6)).mono ?_; rintro e w7 ⟨rfl, d7, rfl⟩)))
    go_wp2
    go_ret3
    exact ⟨rfl, below_drewN (hB1.trans (hB6.mono hz1)) _⟩
  | true =>
    rw [if_pos ⟨h7, hB⟩, fo_flat HG.out.ok, g2] at hV
    injection hV with hv1 hv2
    injection hv2 with hv2 hv3
    subst hv3
    simp only [Option.getD_some] at hv2
    have hrok := hrr.1 rfl
    have hlen := rgt_length hB
    rw [List.length_append, List.length_singleton, ← hbn, ← HRN.out] at hlen
    have hsl := fun k' hk' => Fo.seg_last f 0 k x b fin r rs k' HG.out.may hST (by rw [Nat.zero_add]; exact hs) hkf hrok hk'
    have hrne : rs ≠ [] := by intro e; have := HRN.out; rw [e] at this; simp at this; omega
    obtain ⟨lastv, hlv⟩ : ∃ v, rs[rn - 1]? = some v := ⟨_, List.getElem?_eq_getElem (by have := HRN.out; omega)⟩
    have hgl : rs.getLast? = some lastv := by rw [List.getLast?_eq_getElem?, ← HRN.out]; exact hlv
    have hdl : rs.dropLast ++ [lastv] = rs := by
      have h9 := List.dropLast_concat_getLast hrne
      have h8 : rs.getLast? = some (rs.getLast hrne) := List.getLast?_eq_some_getLast hrne
      rw [hgl] at h8
      injection h8 with h8
      rw [h8]; exact h9
    have hpr := f.prd_of_rok HG.out.may (k + 1) rs hrok
    have hmb := may_all HG.out.ok HG.out.may hs
    obtain ⟨L1, hL1⟩ : ∃ L1, wrap64 (lastv + 1) = L1 := ⟨_, rfl⟩
    have hlw : b.wr ≠ 0 → L1 = rs.getLast?.getD 0 + 1 := by
      intro hw0
      rw [hgl]
      simp only [Option.getD_some]
      obtain ⟨v9, h91, h92, h93⟩ := rgt_last bs rs (k : Int) hB
      rw [hgl] at h91
      injection h91 with h91
      subst h91
      rw [vAt_stands hs] at h93
      have hv6 : x.v.toNat ≤ 65536 := Nat.le_trans (Nat.le_mul_of_pos_left _ (by omega)) hmb.2
      rw [← hL1]
      unfold wrap64; omega
    obtain ⟨hs1, hs2, hs3⟩ := hsl L1 hlw
    have hcl0 : -9223372036854775808 ≤ lastv ∧ lastv ≤ 9223372036854775807 := HRS.out lastv (List.mem_of_getElem? hlv)
    have HLV := hide hlv
    obtain ⟨b20, off20, hba20, _⟩ := getI_at hr hlv
    subst hba20
    have HPR1 := hide (show f.prd (k + 1) (rs.dropLast ++ [lastv]) by rw [hdl]; exact hpr)
    have HV1 := hide (show f.plc (k + 1) (rs.dropLast ++ [lastv]) = V by rw [hdl]; exact hv1)
    have HPR2 := hide hs2
    have HV2 := hide (show f.plc (k + 1) (rs.dropLast ++ [L1]) = U by rw [hs3]; exact hv2)
    have HLEN := hide hlen.symm
    have hrn1 : 1 ≤ rn := by omega
    have hrn4 : rn ≤ 5000 := by omega
    have HL1 := hide hL1
    clear hbs hbn hi hx hep hep7 hin hrr hB hpt h7 g1 g2 g3 hs hv1 hv2 hrok hlen hsl hrne hlv hgl hdl hpr hmb hlw hs1 hs2 hs3 hcl0
    clear hL1
    go_enter Try.func22, Try.ntmps22
    go_wp2_with (first
      | (go_at_call 58; go_must ((with_reducible refine (HO.out).mono ?_); rintro e w1 ⟨q, rfl, hP1, hq1, hb1⟩; have hn1 := below_new12 w1 (.cells #[.pointer (some ⟨q, 0, none⟩)] 100); have hb2 := hb1.trans (hn1.mono hb1.size); have hX1 := hX.belowN hb2; have hI1 := hI.belowN hb2; have hR1 := hR.belowN hb2; have hQ1 := Blk.new w1 100 #[.pointer (some ⟨q, 0, none⟩)]; have hB1 := hb0.trans (hb2.mono hb0.size); have hz1 := hB1.size; have h2 := h1.belowN hb2; have hr2 := hr1.belowN hb2; have hP2 := hP1.belowN hn1; obtain ⟨p0, p1, p2, p3⟩ := hX1.c2; obtain ⟨p4, p5⟩ := hI1.c1))
      | (go_at_call 59; go_must ((with_reducible refine (AroundQ a c f.flat _ _ bs 0 bn HBN.out HA.out h2 (by omega)).mono ?_); rintro e w2 ⟨a2, c2, rfl, hown2, hb3⟩; have hn3 := below_new12 w2 (.cells #[.slice a2 bn c2] 25); have hb4 := hb3.trans (hn3.mono hb3.size); have hX2 := hX1.belowN hb4; have hI2 := hI1.belowN hb4; have hR2 := hR1.belowN hb4; have hQ2 := hQ1.belowN hb4; have hA2 := Blk.new w2 25 #[.slice a2 bn c2]; have hB2 := hB1.trans (hb4.mono hz1); have hz2 := hB2.size; have hown3 := hown2.belowN hn3; obtain ⟨b1, off1, hba, x0, x1, x2, x3, x4⟩ := getOp_eq (h2.belowN hb4) (Below.refl _ _) HX.out; subst hba; obtain ⟨q0, q1, q2, q3⟩ := hX2.c2; obtain ⟨q4, q5⟩ := hI2.c1; obtain ⟨q6, q7⟩ := hR2.c1; obtain ⟨q8, q9⟩ := hQ2.c1; obtain ⟨q10, q11⟩ := hA2.c1)))
    obtain ⟨W1, hW1⟩ : ∃ W1, W1 = w1.alloc (.cells #[.pointer (some ⟨q, 0, none⟩)] 100) := ⟨_, rfl⟩
    obtain ⟨W2, hW2⟩ : ∃ W2, W2 = w2.alloc (.cells #[.slice a2 bn c2] 25) := ⟨_, rfl⟩
    rw [← hW1] at hP2 hX1 hI1 hR1 hQ1 hB1 hz1 h2 hr2 hb4 hown3
    rw [← hW2] at hX2 hI2 hR2 hQ2 hA2 hB2 hz2 hown3 hb4 q0 q1 q2 q3 q4 q5 q6 q7 q8 q9 q10 q11 x0 x1 x2 x3 x4 ⊢
    have hla := hA2.lt
    have hlq := hQ2.lt
    have hlr := hR2.lt
    have hli := hI2.lt
    have hlb := World.block_lt_of_cell? _ _ x0
    have hW12 : W1.heap.size ≤ W2.heap.size := hb4.size
    have hne2 : a2.map (·.block) ≠ some w2.heap.size := fun e => by have := (hown2.blk _ e).2; omega
    have HNE := hide hne2
    have hn5 := (Below.drew (Below.refl W2.heap.size W2)).alloc (Nat.le_refl _) (.cells #[.int .i64 (k : Int)] 3)
    have hoN := hown3.belowN hn5
    have hsN : At (W2.drew.alloc (.cells #[.int .i64 (k : Int)] 3)) (some ⟨W2.heap.size, 0, none⟩) [(k : Int)] := At.ofBlk (Blk.new W2.drew _ #[.int .i64 (k : Int)]) [(k : Int)] rfl
    have X5 := hX2.belowN hn5
    have I5 := hI2.belowN hn5
    have R5 := hR2.belowN hn5
    have Q5 := hQ2.belowN hn5
    have A5 := hA2.belowN hn5
    have HB5 := hide (hb4.trans (hn5.mono hW12))
    have HRW := hide hr2
    have HPW := hide hP2
    have hx1 := hX1.lt
    have hx2 := hI1.lt
    have hx3 := hR1.lt
    have hx4 := hQ1.lt
    have HXK := hide (show ∀ W', Below W1.heap.size W1 W' → W'.cell? ⟨b1, off1 + k * 5, none⟩ = some (.int .i64 x.kind) from fun W' hb => by
      obtain ⟨b1', off1', hba, y0, _⟩ := getOp_eq (h2.belowN hb) (Below.refl _ _) HX.out
      injection hba with hba
      injection hba with e1 e2 _
      rw [e1, e2]; exact y0)
    clear hW1 hW2 hne2 hb2 hb3 hn1 hn3 hown2 p0 p1 p2 p3 p4 p5
    go_region_held3 (fun w' => w'.cell? ⟨w.heap.size, 1, none⟩ = some (.slice (some ⟨b1, off1, none⟩) f.flat.length c) ∧ w'.cell? ⟨w.heap.size + 1, 0, none⟩ = some (.int .i64 (k : Int)) ∧ w'.cell? ⟨b1, off1 + k * 5, none⟩ = some (.int .i64 x.kind) ∧ w'.cell? ⟨w1.heap.size, 0, none⟩ = some (.pointer (some ⟨q, 0, none⟩)) ∧ w'.cell? ⟨w2.heap.size, 0, none⟩ = some (.slice a2 bn c2) ∧ w'.cell? ⟨w.heap.size + 1 + 1, 0, none⟩ = some (.slice (some ⟨b20, off20, none⟩) rn rc)) (go_keep)
      (first
        | (refine step_pushK tyI hoN hsN rfl rfl rfl rfl HBN.out rfl (by simp; omega) (by omega) (by simp) ?_; intro a6 c6 w6 hown6 hkep6 hg6; have hB6 := Below.grown HB5.out hg6 (by simp; omega) (fun k hk => (hoN.blk k hk).1); have hz6 := hB6.size; have X6 := X5.grown hg6 (fun e => by have := (hoN.blk _ e.symm).1; omega); have I6 := I5.grown hg6 (fun e => by have := (hoN.blk _ e.symm).1; omega); have R6 := R5.grown hg6 (fun e => by have := (hoN.blk _ e.symm).1; omega); have Q6 := Q5.grown hg6 (fun e => by have := (hoN.blk _ e.symm).1; omega); have A6 := A5.grown hg6 (fun e => HNE.out e.symm); obtain ⟨y0, y1, y2, y3⟩ := X6.c2; obtain ⟨y4, y5⟩ := I6.c1; obtain ⟨y6, y7⟩ := R6.c1; obtain ⟨y8, y9⟩ := Q6.c1; obtain ⟨y10, y11⟩ := A6.c1; have y12 := HXK.out w6 hB6)
        | (go_at_call 61; go_must (refine (right_calls q f _ _ (bn + 1) _ rn _ (bs ++ [(k : Int)]) rs HBN1.out HRN.out true HB.out HIN.out HRS.out hfl (by omega) hrl _ (HPW.out.belowN hB6) hown6.at_ (HRW.out.belowN hB6)).mono ?_; rintro e w7 ⟨rfl, d7, rfl⟩)))
    have hlc : w6.cell? ⟨b20, off20 + (rn - 1), none⟩ = some (.int .i64 lastv) := by
      obtain ⟨b', off', hba, y⟩ := getI_at (HRW.out.belowN hB6) HLV.out
      injection hba with hba
      injection hba with e1 e2 _
      rw [e1, e2]; exact y
    have hl1 := HL1.out
    have A7 := A6.drewN d7
    have K7 := hkep6.drewN d7
    have B7 := below_drewN hB6 d7
    have HK1 := hide (begin20_calls q f HG.out.ok HG.out.may HG.out.few hfl k hkf bs HPT.out bn HBN.out hbsl rs rn HRN.out HLEN.out lastv HPR1.out V HV1.out (w.heap.size + 1 + 1) w1.heap.size (w.heap.size + 1) w2.heap.size (some ⟨b20, off20, none⟩) a2 rc c2 W1 _ B7 hR1 hr2 hQ1 hP2 hI1 A7 K7 HNE.out)
    have HK2 := hide (fun W' h1 h2 h3 => begin20_calls q f HG.out.ok HG.out.may HG.out.few hfl k hkf bs HPT.out bn HBN.out hbsl rs rn HRN.out HLEN.out L1 HPR2.out U HV2.out (w.heap.size + 1 + 1) w1.heap.size (w.heap.size + 1) w2.heap.size (some ⟨b20, off20, none⟩) a2 rc c2 W1 W' h1 hR1 hr2 hQ1 hP2 hI1 h2 h3 HNE.out)
    go_wp2_with (first
      | (have hgd := hown8; go_at_call 70; go_must ((with_reducible refine (HK2.out _ hB8 A8 hown8).mono ?_); rintro e w9 ⟨rfl, hB9, hown9, A9⟩))
      | (go_at_call 70; go_must ((with_reducible refine (HK1.out).mono ?_); rintro e w8 ⟨rfl, hB8, hown8, A8⟩)))
    go_ret3
    exact ⟨rfl, hB1.trans (hB9.mono hz1)⟩
end Go.Proofs.Ythncfoompoheoaa
