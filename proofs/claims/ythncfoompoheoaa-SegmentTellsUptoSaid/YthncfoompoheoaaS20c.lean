/- Chapter 20: the plan of a program is made; Place, At. -/
import Derived.Test.YthncfoompoheoaaS20b
namespace Go.Proofs.Ythncfoompoheoaa
set_option linter.unusedVariables false
set_option linter.unusedSimpArgs false
open Go.RowKit
theorem AroundQ (a : Option Addr) (c : Nat) (l : List OpD) (i : Int) (w : World) (R : List Int) (E : Int) (n : Nat) (hn : n = R.length) (hR : aroundS l i = (R, E)) (h : At w a l) (hl : l.length ≤ 1000000) :
    Calls Try.prog 59 #[.slice a l.length c, .int .i64 i] w fun e w' => ∃ a' c', e = .returned (.tuple #[.slice a' n c', .int .i64 E]) ∧ Own w' w.heap.size 3 a' c' R ∧ Below w.heap.size w w' := by
  subst hn
  refine (Around_calls a c l i w h hl).mono ?_
  rintro e w' ⟨a', c', rfl, h1, h2⟩
  rw [hR] at h1 ⊢
  exact ⟨a', c', rfl, h1, h2⟩
theorem of_bad (regs : Int) (a : Option Addr) (c : Nat) (l : List OpD) (E : Int) (hE : checkS regs l = E) (hc : E ≠ 0) (w : World) (h : At w a l) (hl : l.length ≤ 1000000) :
    Calls Try.prog 58 #[.agg #[.int .i64 regs, .slice a l.length c]] w fun e w' => e = .returned (.tuple #[.pointer none, .int .i64 E]) ∧ Below w.heap.size w w' := by
  have hb0 := below_new12 w (.cells #[.int .i64 regs, .slice a l.length c] 24)
  have HP := hide (Prog_calls regs a c l _ (h.belowN hb0) hl)
  rw [hE] at HP
  have e1 : (E == 0) = false := by simpa using hc
  have e2 : (E != 0) = true := by simpa using hc
  clear hE hc
  go_enter Try.func58, Try.ntmps58
  go_wp2_with (go_at_call 91; ((with_reducible refine (HP.out).mono ?_); rintro e w1 ⟨rfl, hb1⟩))
  go_ret2
  exact ⟨rfl, hb0.trans (hb1.mono hb0.size)⟩
set_option maxHeartbeats 1600000 in
theorem of_good (regs : Int) (a : Option Addr) (c : Nat) (f : Fo) (g : Good regs f) (w : World) (h : At w a f.flat) :
    Calls Try.prog 58 #[.agg #[.int .i64 regs, .slice a f.flat.length c]] w fun e w' => ∃ q, e = .returned (.tuple #[.pointer (some ⟨q, 0, none⟩), .int .i64 0]) ∧ PlanAt w' q f ∧ w.heap.size ≤ q ∧ Below w.heap.size w w' := by
  have hl : f.flat.length ≤ 4096 := g.len
  have hb0 := below_new12 w (.cells #[.int .i64 regs, .slice a f.flat.length c] 24)
  have hX := Blk.new w 24 #[.int .i64 regs, .slice a f.flat.length c]
  have HP := hide (Prog_calls regs a c f.flat _ (h.belowN hb0) (by omega))
  have HM := hide (fun w' (g1 : At w' a f.flat) => MatchW a c f.flat w' g1 (by omega) (well_of_flat f g.ok))
  have HZ := hide (fun w' (g1 : At w' a f.flat) => SizeZ_calls a c f.flat w' g1 (by omega))
  have HR := hide (fun w' (g1 : At w' a f.flat) => SizeR_calls a c f.flat w' g1 (by omega))
  obtain ⟨z1, z2, z3, z4⟩ := W9_ok g.ok ⟨g.may, g.few⟩
  rw [z1, z3, f.sizes_length] at HZ
  rw [z1, z4, f.rounds_length] at HR
  rw [g.check] at HP
  change Hid (∀ w', At w' a f.flat → Calls Try.prog 93 #[.slice a f.flat.length c] w' fun e w'' => ∃ a' c', e = .returned (.tuple #[.slice a' f.flat.length c', .int .i64 0]) ∧ Own w'' w'.heap.size 3 a' c' f.sizes ∧ Below w'.heap.size w' w'') at HZ
  change Hid (∀ w', At w' a f.flat → Calls Try.prog 109 #[.slice a f.flat.length c] w' fun e w'' => ∃ a' c', e = .returned (.tuple #[.slice a' f.flat.length c', .int .i64 0]) ∧ Own w'' w'.heap.size 3 a' c' f.rounds ∧ Below w'.heap.size w' w'') at HR
  clear z1 z2 z3 z4 g
  go_enter Try.func58, Try.ntmps58
  go_wp2_with (first
    | (go_at_call 91; go_must ((with_reducible refine (HP.out).mono ?_); rintro e w1 ⟨rfl, hb1⟩; have hB1 := hb0.trans (hb1.mono hb0.size); have hX1 := hX.belowN hb1; have hn1 := below_new12 w1 (.cells #[.slice a f.flat.length c, .slice none 0 0, .slice none 0 0, .slice none 0 0] 120); have hX1' := hX1.belowN hn1; have hP1 := Blk.new w1 120 #[.slice a f.flat.length c, .slice none 0 0, .slice none 0 0, .slice none 0 0]; have hB1' := hB1.trans (hn1.mono hB1.size); have h1 := h.belowN hB1'; have hz1 := hB1.size; have hz1' := hB1'.size; obtain ⟨q0, q1, q2, q3⟩ := hX1.c2; have hlx := hX1.lt; have HA : Hid (f.flat ≠ [] → ∀ g ∈ [w1.heap.size], a.map (·.block) ≠ some g) := (fun hne g hg e => by obtain ⟨bq, oq, e', hq⟩ := h.lt hne; rw [e'] at e; simp at hg; have e2 : bq = g := (by simpa using e); omega)))
    | (go_at_call 92; go_must ((with_reducible refine (HM.out _ h1).mono ?_); rintro e w2 ⟨am, cm, rfl, hom, hb2⟩; have hP2 := hP1.belowN hb2; have hX2 := hX1'.belowN hb2; have hT2 : Turned [w1.heap.size] _ (w2.setCell ⟨w1.heap.size, 1, none⟩ (.slice am f.flat.length cm)) := (Turned.ofBelow (F := [w1.heap.size]) hb2).trans (Turned.ofGrown (F := [w1.heap.size]) (grown_setCell _ w1.heap.size 1 _) (fun k hk => .inl (by injection hk with hk; simp [hk]))) (fun k hk => .inl hk); have hs2 := hb2.size; simp only [World.size_alloc] at hs2; have h2 := h1.turned hT2 HA.out; have hB2 := Turned.below hB1' hT2 (by simp; omega) hz1'; have hz2 := hB2.size; have hom2 : At (w2.setCell ⟨w1.heap.size, 1, none⟩ (.slice am f.flat.length cm)) am (matchL f.flat) := hom.at_.turned (Turned.ofGrown (F := [w1.heap.size]) (grown_setCell _ w1.heap.size 1 _) (fun k hk => .inl (by injection hk with hk; simp [hk]))) (fun hne g hg e => by have := (hom.blk g e).1; simp at hg this; omega); have hP2' := hP2.set_ 1 (.slice am f.flat.length cm); have hX2' := hX2.far (p := ⟨w1.heap.size, 1, none⟩) (by simp; omega) (.slice am f.flat.length cm); obtain ⟨r0, r1, r2, r3⟩ := hX2.c2; obtain ⟨r4, r5, r6, r7, r8, r9, r10, r11⟩ := hP2.c4))
    | (go_at_call 93; go_must ((with_reducible refine (HZ.out _ h2).mono ?_); rintro e w3 ⟨az, cz, rfl, hoz, hb3⟩; have hP3 := hP2'.belowN hb3; have hX3 := hX2'.belowN hb3; have hT3 : Turned [w1.heap.size] _ (w3.setCell ⟨w1.heap.size, 2, none⟩ (.slice az f.flat.length cz)) := (Turned.ofBelow (F := [w1.heap.size]) hb3).trans (Turned.ofGrown (F := [w1.heap.size]) (grown_setCell _ w1.heap.size 2 _) (fun k hk => .inl (by injection hk with hk; simp [hk]))) (fun k hk => .inl hk); have hs3 := hb3.size; simp [World.setCell] at hs3; have h3 := h2.turned hT3 HA.out; have hB3 := Turned.below hB2 hT3 (by simp; omega) hz2; have hz3 := hB3.size; have hom3 := hom2.turned hT3 (fun hne g hg e => by have := (hom.blk g e).1; simp at hg this; omega); have hoz3 : At (w3.setCell ⟨w1.heap.size, 2, none⟩ (.slice az f.flat.length cz)) az f.sizes := hoz.at_.turned (Turned.ofGrown (F := [w1.heap.size]) (grown_setCell _ w1.heap.size 2 _) (fun k hk => .inl (by injection hk with hk; simp [hk]))) (fun hne g hg e => by have := (hoz.blk g e).1; simp [World.setCell] at hg this; omega); have hP3' := hP3.set_ 2 (.slice az f.flat.length cz); have hX3' := hX3.far (p := ⟨w1.heap.size, 2, none⟩) (by simp; omega) (.slice az f.flat.length cz); obtain ⟨t0, t1, t2, t3⟩ := hX3.c2; obtain ⟨t4, t5, t6, t7, t8, t9, t10, t11⟩ := hP3.c4))
    | (go_at_call 109; go_must ((with_reducible refine (HR.out _ h3).mono ?_); rintro e w4 ⟨ar, cr, rfl, hor, hb4⟩; have hP4 := hP3'.belowN hb4; have hT4 : Turned [w1.heap.size] _ (w4.setCell ⟨w1.heap.size, 3, none⟩ (.slice ar f.flat.length cr)) := (Turned.ofBelow (F := [w1.heap.size]) hb4).trans (Turned.ofGrown (F := [w1.heap.size]) (grown_setCell _ w1.heap.size 3 _) (fun k hk => .inl (by injection hk with hk; simp [hk]))) (fun k hk => .inl hk); have h4 := h3.turned hT4 HA.out; have hB4 := Turned.below hB3 hT4 (by simp; omega) hz3; have hom4 := hom3.turned hT4 (fun hne g hg e => by have := (hom.blk g e).1; simp at hg this; omega); have hoz4 := hoz3.turned hT4 (fun hne g hg e => by have := (hoz.blk g e).1; simp [World.setCell] at hg this; omega); have hor4 : At (w4.setCell ⟨w1.heap.size, 3, none⟩ (.slice ar f.flat.length cr)) ar f.rounds := hor.at_.turned (Turned.ofGrown (F := [w1.heap.size]) (grown_setCell _ w1.heap.size 3 _) (fun k hk => .inl (by injection hk with hk; simp [hk]))) (fun hne g hg e => by have := (hor.blk g e).1; simp [World.setCell] at hg this; omega); have hP4' := hP4.set_ 3 (.slice ar f.flat.length cr); obtain ⟨v4, v5, v6, v7, v8, v9, v10, v11⟩ := hP4.c4)))
  go_ret2
  exact ⟨w1.heap.size, rfl, ⟨a, am, az, ar, c, cm, cz, cr, hP4', h4, hom4, hoz4, hor4⟩, hz1, hB4⟩
theorem around_good {f : Fo} (hf : f.ok) {i : Nat} {x : OpD} (hx : f.flat[i]? = some x) : aroundS f.flat (i : Int) = (encl 0 f i, 0) := by
  have hi := (List.getElem?_eq_some_iff.1 hx).1
  unfold aroundS
  rw [if_pos (well_of_flat f hf), if_neg (by omega)]
  unfold arAt
  rw [if_pos (by omega)]
  simp only [Int.toNat_natCast, hx]
  have := encl_stack f hf 0 [] i x hx
  rw [show stAt f.flat i = stF 0 [] (f.flat.take i) from rfl, this]
  rfl
theorem around_out {f : Fo} (hf : f.ok) {i : Int} (hi : i < 0 ∨ (f.flat.length : Int) ≤ i) : aroundS f.flat i = ([], 2) := by
  unfold aroundS
  rw [if_pos (well_of_flat f hf), if_pos hi]
/-- does the operation of a place write? -/
def wAt (l : List OpD) (i : Int) : Bool := match l[i.toNat]? with | some x => dOf x.kind | none => false
/-- which number a write has -/
noncomputable def placeS (regs : Int) (l : List OpD) (i : Int) (rs : List Int) : Int × Int :=
  if checkS regs l ≠ 0 then (0, checkS regs l) else if i < 0 ∨ (l.length : Int) ≤ i then (0, 2) else if wAt l i = true ∧ rgt l (aroundS l i).1 rs = true then ((fo l).plc i.toNat rs, 0) else (0, 2)
theorem encl_length (f : Fo) : ∀ o j, (encl o f j).length ≤ f.size := by
  induction f with
  | nil => intro o j; exact Nat.zero_le _
  | leaf op r ih => intro o j; rw [Fo.size_leaf, encl]; split <;> first | simp | (have := ih (o + 1) (j - 1); omega)
  | rep op b fin r ihb ihr =>
    intro o j
    rw [Fo.size_rep, encl]
    split
    · simp
    · split
      · have := ihb (o + 1) (j - 1); rw [List.length_cons]; omega
      · split
        · simp
        · have := ihr (o + b.size + 2) (j - b.size - 2); omega
set_option maxHeartbeats 1600000 in
theorem Place_calls (regs : Int) (a : Option Addr) (c : Nat) (l : List OpD) (i : Int) (ra : Option Addr) (rn rc : Nat) (rs : List Int) (hrn : rn = rs.length) (hrs : ∀ r ∈ rs, -9223372036854775808 ≤ r ∧ r ≤ 9223372036854775807) (V E : Int) (hV : placeS regs l i rs = (V, E)) (w : World) (h : At w a l) (hl : l.length ≤ 1000000) (hr : At w ra rs) (hrl : rn ≤ 1000000) :
    Calls Try.prog 17 #[.agg #[.int .i64 regs, .slice a l.length c], .int .i64 i, .slice ra rn rc] w fun e w' => e = .returned (.tuple #[.int .i64 V, .int .i64 E]) ∧ Below w.heap.size w w' := by
  have hb0 := below_new12 w (.cells #[.int .i64 regs, .slice a l.length c] 24)
  have hX := Blk.new w 24 #[.int .i64 regs, .slice a l.length c]
  have h1 := h.belowN hb0
  have hr1 := hr.belowN hb0
  have HRS := hide hrs
  have HRN := hide hrn
  unfold placeS at hV
  clear hrs hrn
  by_cases hc : checkS regs l = 0
  case neg =>
    rw [if_pos hc] at hV
    injection hV with hv1 hv2
    subst hv1
    have HO := hide (of_bad regs a c l E hv2 (by rw [← hv2]; exact hc) _ h1 hl)
    have e1 : (E == 0) = false := by rw [← hv2]; simpa using hc
    have e2 : (E != 0) = true := by rw [← hv2]; simpa using hc
    clear hv2 hc
    go_enter Try.func17, Try.ntmps17
    go_wp2_with (go_at_call 58; go_must ((with_reducible refine (HO.out).mono ?_); rintro e w1 ⟨rfl, hb1⟩))
    go_ret2
    exact ⟨rfl, hb0.trans (hb1.mono hb0.size)⟩
  rw [if_neg (by rw [hc]; simp)] at hV
  obtain ⟨f, rfl, g⟩ := good_of_check hc
  have hfl : f.flat.length ≤ 4096 := g.len
  have HG := hide g
  have HO := hide (of_good regs a c f g _ h1)
  clear hc g
  by_cases hi : i < 0 ∨ (f.flat.length : Int) ≤ i
  · rw [if_pos hi] at hV
    injection hV with hv1 hv2
    subst hv1 hv2
    have HA := hide (around_out HG.out.ok hi)
    clear hi
    go_enter Try.func17, Try.ntmps17
    go_wp2_with (first
      | (go_at_call 58; go_must ((with_reducible refine (HO.out).mono ?_); rintro e w1 ⟨q, rfl, hP1, hq1, hb1⟩; have hX1 := hX.belowN hb1; have hB1 := hb0.trans (hb1.mono hb0.size); have hz1 := hB1.size; obtain ⟨p0, p1, p2, p3⟩ := hX1.c2))
      | (go_at_call 59; go_must ((with_reducible refine (AroundQ a c f.flat i _ [] 2 0 rfl HA.out (h1.belowN hb1) (by omega)).mono ?_); rintro e w2 ⟨a2, c2, rfl, hown2, hb2⟩)))
    go_ret2
    exact ⟨rfl, hB1.trans (hb2.mono hz1)⟩
  rw [if_neg hi] at hV
  obtain ⟨k, rfl⟩ : ∃ k : Nat, i = k := ⟨i.toNat, by omega⟩
  have hk : k < f.flat.length := by omega
  obtain ⟨x, hx⟩ : ∃ x, f.flat[k]? = some x := ⟨_, List.getElem?_eq_getElem hk⟩
  have hA := around_good HG.out.ok hx
  have hw : wAt f.flat (k : Int) = dOf x.kind := by unfold wAt; simp only [Int.toNat_natCast]; rw [hx]
  rw [hw, hA] at hV
  simp only [Int.toNat_natCast] at hV
  obtain ⟨bs, hbs⟩ : ∃ bs, bs = encl 0 f k := ⟨_, rfl⟩
  rw [← hbs] at hA hV
  have hbsl : bs.length ≤ 4096 := by
    have := encl_length f 0 k
    rw [← hbs] at this
    exact Nat.le_trans this hfl
  obtain ⟨bn, hbn⟩ : ∃ bn, bn = bs.length := ⟨_, rfl⟩
  rw [← hbn] at hbsl
  have HA := hide hA
  have HBN := hide hbn
  have HX := hide hx
  clear hA hw
  cases hd : dOf x.kind with
  | false =>
    rw [if_neg (by rw [hd]; simp)] at hV
    injection hV with hv1 hv2
    subst hv1 hv2
    have HD := hide hd
    have HWR := hide (fun w => Writes7_calls x w)
    rw [hd] at HWR
    clear hd hbs hbn hi hx
    have i0 : (0 : Int) ≤ (k : Int) := by omega
    have i1 : (k : Int) < (f.flat.length : Int) := by omega
    go_enter Try.func17, Try.ntmps17
    go_wp2_with (first
      | (go_at_call 58; go_must ((with_reducible refine (HO.out).mono ?_); rintro e w1 ⟨q, rfl, hP1, hq1, hb1⟩; have hX1 := hX.belowN hb1; have hB1 := hb0.trans (hb1.mono hb0.size); have hz1 := hB1.size; have h2 := h1.belowN hb1; obtain ⟨p0, p1, p2, p3⟩ := hX1.c2))
      | (go_at_call 59; go_must ((with_reducible refine (AroundQ a c f.flat _ _ bs 0 bn HBN.out HA.out h2 (by omega)).mono ?_); rintro e w2 ⟨a2, c2, rfl, hown2, hb2⟩; have hX2 := hX1.belowN hb2; have hB2 := hB1.trans (hb2.mono hz1); have hz2 := hB2.size; obtain ⟨b1, off1, hba, x0, x1, x2, x3, x4⟩ := getOp_eq (h2.belowN hb2) (Below.refl _ _) HX.out; subst hba; obtain ⟨q0, q1, q2, q3⟩ := hX2.c2))
      | (go_at_call 60; go_must ((with_reducible refine (HWR.out _).mono ?_); rintro e w3 ⟨rfl, hb3⟩)))
    go_ret2
    exact ⟨rfl, hB2.trans (hb3.mono hz2)⟩
  | true =>
    have hk16 : 1 ≤ x.kind ∧ x.kind ≤ 6 := by unfold dOf at hd; simpa using hd
    obtain ⟨hep, _⟩ := f.encl_pth HG.out.ok 0 k x hx (by omega)
    rw [← hbs] at hep
    have HWR := hide (fun w => Writes7_calls x w)
    rw [hd] at HWR
    have hST := Stands.whole HG.out.ok
    have hin : ∀ b ∈ bs, 0 ≤ b ∧ b.toNat < f.flat.length := pth_in bs f 0 k hST hep.symm
    have hrr := rgt_rok bs f 0 k rs hST (by unfold Fo.size; omega) hep.symm
    have HIN := hide hin
    have HEP := hide hep
    have HBN2 : Hid (bn = (Fo.pth 0 f k).length) := by show bn = _; rw [hbn, hep]
    have i0 : (0 : Int) ≤ (k : Int) := by omega
    have i1 : (k : Int) < (f.flat.length : Int) := by omega
    obtain ⟨B, hB⟩ : ∃ B, rgt f.flat bs rs = B := ⟨_, rfl⟩
    have HB := hide hB
    rw [hB] at hrr
    cases B with
    | false =>
      rw [if_neg (by rw [hB]; simp)] at hV
      injection hV with hv1 hv2
      subst hv1 hv2
      clear hd hbs hbn hi hx hep hin hrr hB
      go_enter Try.func17, Try.ntmps17
      go_wp2_with (first
        | (go_at_call 58; go_must ((with_reducible refine (HO.out).mono ?_); rintro e w1 ⟨q, rfl, hP1, hq1, hb1⟩; have hX1 := hX.belowN hb1; have hB1 := hb0.trans (hb1.mono hb0.size); have hz1 := hB1.size; have h2 := h1.belowN hb1; have hr2 := hr1.belowN hb1; obtain ⟨p0, p1, p2, p3⟩ := hX1.c2))
        | (go_at_call 59; go_must ((with_reducible refine (AroundQ a c f.flat _ _ bs 0 bn HBN.out HA.out h2 (by omega)).mono ?_); rintro e w2 ⟨a2, c2, rfl, hown2, hb2⟩; have hX2 := hX1.belowN hb2; have hB2 := hB1.trans (hb2.mono hz1); have hz2 := hB2.size; have hP2 := hP1.belowN hb2; have hr3 := hr2.belowN hb2; obtain ⟨b1, off1, hba, x0, x1, x2, x3, x4⟩ := getOp_eq (h2.belowN hb2) (Below.refl _ _) HX.out; subst hba; obtain ⟨q0, q1, q2, q3⟩ := hX2.c2))
        | (go_at_call 60; go_must ((with_reducible refine (HWR.out _).mono ?_); rintro e w3 ⟨rfl, hb3⟩; have hP3 := hP2.belowN hb3; have hB3 := hB2.trans (hb3.mono hz2); have hz3 := hB3.size; have hr4 := hr3.belowN hb3; have hbs3 := (hown2.belowN hb3).at_))
        | (go_at_call 61; go_must ((with_reducible refine (right_calls q f _ _ bn _ rn _ bs rs HBN.out HRN.out false HB.out HIN.out HRS.out hfl (by omega) hrl _ hP3 hbs3 hr4).mono ?_); rintro e w4 ⟨rfl, d4, rfl⟩)))
      go_ret2
      exact ⟨rfl, below_drewN hB3 _⟩
    | true =>
      have hbr : bn = rn := by rw [hbn, HRN.out]; exact rgt_length hB
      rw [if_pos ⟨hd, hB⟩, fo_flat HG.out.ok] at hV
      injection hV with hv1 hv2
      subst hv2
      have HV := hide hv1
      have HBR := hide hbr
      have HPR := hide (f.prd_of_rok HG.out.may k rs (hrr.1 rfl))
      have hat : ∀ W a, At W a bs → At W a (Fo.pth 0 f k) := fun W a h => by rw [← hep]; exact h
      have HAT := hide hat
      clear hd hbs hbn hi hx hep hin hrr hB hv1 hbr hat
      go_enter Try.func17, Try.ntmps17
      go_wp2_with (first
        | (go_at_call 58; go_must ((with_reducible refine (HO.out).mono ?_); rintro e w1 ⟨q, rfl, hP1, hq1, hb1⟩; have hX1 := hX.belowN hb1; have hB1 := hb0.trans (hb1.mono hb0.size); have hz1 := hB1.size; have h2 := h1.belowN hb1; have hr2 := hr1.belowN hb1; obtain ⟨p0, p1, p2, p3⟩ := hX1.c2))
        | (go_at_call 59; go_must ((with_reducible refine (AroundQ a c f.flat _ _ bs 0 bn HBN.out HA.out h2 (by omega)).mono ?_); rintro e w2 ⟨a2, c2, rfl, hown2, hb2⟩; have hX2 := hX1.belowN hb2; have hB2 := hB1.trans (hb2.mono hz1); have hz2 := hB2.size; have hP2 := hP1.belowN hb2; have hr3 := hr2.belowN hb2; obtain ⟨b1, off1, hba, x0, x1, x2, x3, x4⟩ := getOp_eq (h2.belowN hb2) (Below.refl _ _) HX.out; subst hba; obtain ⟨q0, q1, q2, q3⟩ := hX2.c2))
        | (go_at_call 60; go_must ((with_reducible refine (HWR.out _).mono ?_); rintro e w3 ⟨rfl, hb3⟩; have hP3 := hP2.belowN hb3; have hB3 := hB2.trans (hb3.mono hz2); have hz3 := hB3.size; have hr4 := hr3.belowN hb3; have hbs3 := (hown2.belowN hb3).at_))
        | (go_at_call 61; go_must ((with_reducible refine (right_calls q f _ _ bn _ rn _ bs rs HBN.out HRN.out true HB.out HIN.out HRS.out hfl (by omega) hrl _ hP3 hbs3 hr4).mono ?_); rintro e w4 ⟨rfl, d4, rfl⟩))
        | (go_at_call 62; go_must ((with_reducible refine (place_calls q f HG.out.ok HG.out.may HG.out.few k (by unfold Fo.size; omega) _ rfl _ _ bn _ rn _ rs HBN2.out HRN.out HBR.out HPR.out V HV.out hfl (by omega) _ (hP3.drewN _) (HAT.out _ _ (hbs3.drewN _)) (hr4.drewN _)).mono ?_); rintro e w5 ⟨rfl, d5, rfl⟩)))
      go_ret2
      exact ⟨rfl, below_drewN hB3 _⟩
end Go.Proofs.Ythncfoompoheoaa
