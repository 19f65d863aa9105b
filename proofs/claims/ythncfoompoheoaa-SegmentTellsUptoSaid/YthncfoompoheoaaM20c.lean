/- Chapter 20, the document's answers: Place. -/
import Derived.Test.YthncfoompoheoaaM20b
import Derived.Test.YthncfoompoheoaaQd
import Derived.Test.YthncfoompoheoaaQh
import Derived.Test.YthncfoompoheoaaT21e
namespace Go.Proofs.Ythncfoompoheoaa
set_option linter.unusedVariables false
set_option linter.unusedSimpArgs false
open Go.RowKit
theorem Around8N (a : Option Addr) (c : Nat) (l : List OpD) (i : Int) (w : World) (h : At w a l) (hl : l.length ≤ 1000000) (hi1 : -9223372036854775808 ≤ i) (hi2 : i ≤ 9223372036854775807) (bs : List Int) (E : Int) (n : Nat) (hA : aroundS l i = (bs, E)) (hn : n = bs.length) :
    Calls Try.prog 64 #[.slice a l.length c, .int .i64 i] w fun e w' => ∃ a' c', e = .returned (.tuple #[.slice a' n c', .int .i64 E]) ∧ Own w' w.heap.size 3 a' c' bs ∧ Below w.heap.size w w' := by
  subst hn
  have := Around8_calls a c l i w h hl hi1 hi2
  unfold Around8Post at this
  rw [hA] at this
  exact this
theorem mks_in (f : Fo) : ∀ (o : Nat) (rs : List Int), ∀ x ∈ Fo.mks o rs f, x.1 < o + f.size ∧ x.2.length ≤ rs.length + f.size := by
  induction f with
  | nil => intro o rs x hx; simp [Fo.mks] at hx
  | leaf op r ih =>
    intro o rs x hx
    rw [Fo.size_leaf]
    rcases List.mem_cons.1 hx with rfl | hx
    · simp only; omega
    · have := ih (o + 1) rs x hx; omega
  | rep op b fin r ihb ihr =>
    intro o rs x hx
    rw [Fo.size_rep]
    by_cases h0 : b.wr = 0
    · rw [Fo.mks_rep0 _ _ _ _ _ _ h0] at hx
      have := ihr _ rs x hx; omega
    · rw [Fo.mks_rep _ _ _ _ _ _ h0] at hx
      rcases List.mem_append.1 hx with hx | hx
      · obtain ⟨L, hL, hx⟩ := List.mem_flatten.1 hx
        obtain ⟨k, _, rfl⟩ := List.mem_map.1 hL
        rcases List.mem_cons.1 hx with rfl | hx
        · simp only [List.length_append, List.length_singleton]; omega
        · rcases List.mem_append.1 hx with hx | hx
          · have := ihb _ _ x hx; simp only [List.length_append, List.length_singleton] at this; omega
          · obtain rfl := List.mem_singleton.1 hx
            simp only [List.length_append, List.length_singleton]; omega
      · have := ihr _ rs x hx; omega
theorem At.getM {w wr : World} {a : Option Addr} {l : List HdM} (h : At w a l) (hb : Below w.heap.size w wr) {k : Nat} (hk : k < l.length) :
    ∃ b off x, a = some ⟨b, off, none⟩ ∧ Hid (l[k]? = some x) ∧ wr.cell? ⟨b, off + k * 2, none⟩ = some (.int .i64 x.at') ∧ wr.cell? ⟨b, off + k * 2 + 1, none⟩ = some (.slice x.a x.n x.c) := by
  obtain ⟨b, off, x, e, hx, hc⟩ := (h.belowN hb).get hk
  exact ⟨b, off, x, e, hx, hc 0 _ rfl, hc 1 _ rfl⟩
theorem filter_take_succ {α : Type} (p : α → Bool) {L : List α} {k : Nat} {x : α} (h : L[k]? = some x) : ((L.take (k + 1)).filter p).length = ((L.take k).filter p).length + (if p x = true then 1 else 0) := by
  rw [List.take_add_one, h, List.filter_append, List.length_append]
  by_cases hp : p x = true
  · simp [hp]
  · simp [hp]
attribute [local go_sem] idx_d
set_option maxRecDepth 100000 in
set_option maxHeartbeats 6400000 in
theorem Place20_calls (regs : Int) (a : Option Addr) (c : Nat) (l : List OpD) (i : Int) (ra : Option Addr) (rn rc : Nat) (rs : List Int) (hrn : rn = rs.length) (hrs : ∀ r ∈ rs, -9223372036854775808 ≤ r ∧ r ≤ 9223372036854775807) (V E : Int) (hV : placeS regs l i rs = (V, E)) (w : World) (h : At w a l) (hl : l.length ≤ 1000000) (hr : At w ra rs) (hrl : rn ≤ 1000000) (hi1 : -9223372036854775808 ≤ i) (hi2 : i ≤ 9223372036854775807) :
    Calls Try.prog 18 #[.agg #[.int .i64 regs, .slice a l.length c], .int .i64 i, .slice ra rn rc] w fun e w' => e = .returned (.tuple #[.int .i64 V, .int .i64 E]) ∧ Below w.heap.size w w' := by
  have hb0 := below_new12 w (.cells #[.int .i64 regs, .slice a l.length c] 24)
  have hX := Blk.new w 24 #[.int .i64 regs, .slice a l.length c]
  have h1 := h.belowN hb0
  have hr1 := hr.belowN hb0
  have HRS := hide hrs
  have HRN := hide hrn
  have HPR := hide (Prog10_calls regs a c l _ h1 hl)
  unfold placeS at hV
  clear hrs hrn
  by_cases hc : checkS regs l = 0
  case neg =>
    rw [if_pos hc] at hV
    injection hV with hv1 hv2
    subst hv1
    rw [hv2] at HPR hc
    have e1 : (E == 0) = false := by simpa using hc
    have e2 : (E != 0) = true := by simpa using hc
    clear hv2 hc
    go_enter Try.func18, Try.ntmps18
    go_wp2_with (go_at_call 63; go_must ((with_reducible refine (HPR.out).mono ?_); rintro e w1 ⟨rfl, hb1⟩))
    go_ret2
    exact ⟨rfl, hb0.trans (hb1.mono hb0.size)⟩
  rw [if_neg (by rw [hc]; simp)] at hV
  rw [hc] at HPR
  obtain ⟨f, rfl, g⟩ := good_of_check hc
  have hfl : f.flat.length ≤ 4096 := g.len
  have HG := hide g
  clear hc g
  by_cases hi : i < 0 ∨ (f.flat.length : Int) ≤ i
  · rw [if_pos hi] at hV
    injection hV with hv1 hv2
    subst hv1 hv2
    have HA := hide (around_out HG.out.ok hi)
    clear hi
    go_enter Try.func18, Try.ntmps18
    go_wp2_with (first
      | (go_at_call 63; go_must ((with_reducible refine (HPR.out).mono ?_); rintro e w1 ⟨rfl, hb1⟩; obtain ⟨p0, p1, p2, p3⟩ := (hX.belowN hb1).c2))
      | (go_at_call 64; go_must ((with_reducible refine (Around8N a c f.flat i _ (h1.belowN hb1) hl hi1 hi2 [] 2 0 HA.out rfl).mono ?_); rintro e w2 ⟨a2, c2, rfl, hown2, hb2⟩; have hC2 := hb1.trans (hb2.mono hb1.size))))
    go_ret2
    exact ⟨rfl, hb0.trans (hC2.mono hb0.size)⟩
  rw [if_neg hi] at hV
  obtain ⟨k, rfl⟩ : ∃ k : Nat, i = k := ⟨i.toNat, by omega⟩
  have hk : k < f.flat.length := by omega
  obtain ⟨x, hx⟩ : ∃ x, f.flat[k]? = some x := ⟨_, List.getElem?_eq_getElem hk⟩
  have hA := around_good HG.out.ok hx
  have hw : wAt f.flat (k : Int) = dOf x.kind := by unfold wAt; simp only [Int.toNat_natCast]; rw [hx]
  rw [hw, hA] at hV
  simp only [Int.toNat_natCast] at hV
  obtain ⟨bs, hbs⟩ : ∃ bs, bs = encl 0 f k := ⟨_, rfl⟩
  rw [← hbs] at hA hV
  have hbsl : bs.length ≤ 4096 := by
    have := encl_length f 0 k
    rw [← hbs] at this
    exact Nat.le_trans this hfl
  obtain ⟨bn, hbn⟩ : ∃ bn, bn = bs.length := ⟨_, rfl⟩
  rw [← hbn] at hbsl
  have HA := hide hA
  have HBN := hide hbn
  have HX := hide hx
  have i0 : (0 : Int) ≤ (k : Int) := by omega
  have i1 : (k : Int) < (f.flat.length : Int) := by omega
  have HAS := hide (fun W => Asks_calls x.kind W)
  clear hA hw
  cases hd : dOf x.kind with
  | false =>
    rw [if_neg (by rw [hd]; simp)] at hV
    injection hV with hv1 hv2
    subst hv1 hv2
    have HD := hide hd
    clear hd hbs hbn hi hx
    go_enter Try.func18, Try.ntmps18
    go_wp2_with (first
        | (go_at_call 63; go_must ((with_reducible refine (HPR.out).mono ?_); rintro e w1 ⟨rfl, hC1⟩; obtain ⟨p0, p1, p2, p3⟩ := (hX.belowN hC1).c2))
        | (go_at_call 64; go_must ((with_reducible refine (Around8N a c f.flat _ _ (h1.belowN hC1) hl hi1 hi2 bs 0 bn HA.out HBN.out).mono ?_); rintro e w2 ⟨a2, c2, rfl, hown2, hb2⟩; have hC2 := hC1.trans (hb2.mono hC1.size); obtain ⟨p0, p1, p2, p3⟩ := (hX.belowN hC2).c2; obtain ⟨b1, off1, hba, x0, x1, x2, x3, x4⟩ := getOp_eq (h1.belowN hC2) (Below.refl _ _) HX.out; subst hba))
        | (go_at_call 65; go_must ((with_reducible refine (HAS.out _).mono ?_); rw [HD.out]; rintro e w3 ⟨rfl, hb3⟩; have hC3 := hC2.trans (hb3.mono hC2.size); have hbs3 := (hown2.belowN hb3).at_; obtain ⟨p0, p1, p2, p3⟩ := (hX.belowN hC3).c2))
        | fail)
    go_ret2
    exact ⟨rfl, hb0.trans (hC3.mono hb0.size)⟩
  | true =>
    have HD := hide hd
    have hk16 : 1 ≤ x.kind ∧ x.kind ≤ 6 := by unfold dOf at hd; simpa using hd
    obtain ⟨hep, _⟩ := f.encl_pth HG.out.ok 0 k x hx (by omega)
    rw [← hbs] at hep
    have hST := Stands.whole HG.out.ok
    have hin : ∀ b ∈ bs, 0 ≤ b ∧ b.toNat < f.flat.length := pth_in bs f 0 k hST hep.symm
    have hrr := rgt_rok bs f 0 k rs hST (by unfold Fo.size; omega) hep.symm
    have HIN := hide hin
    obtain ⟨B, hB⟩ : ∃ B, rgt f.flat bs rs = B := ⟨_, rfl⟩
    have HB := hide hB
    rw [hB] at hrr
    cases B with
    | false =>
      rw [if_neg (by rw [hB]; simp)] at hV
      injection hV with hv1 hv2
      subst hv1 hv2
      clear hd hbs hbn hi hx hep hin hrr hB
      go_enter Try.func18, Try.ntmps18
      go_wp2_with (first
        | (go_at_call 63; go_must ((with_reducible refine (HPR.out).mono ?_); rintro e w1 ⟨rfl, hC1⟩; obtain ⟨p0, p1, p2, p3⟩ := (hX.belowN hC1).c2))
        | (go_at_call 64; go_must ((with_reducible refine (Around8N a c f.flat _ _ (h1.belowN hC1) hl hi1 hi2 bs 0 bn HA.out HBN.out).mono ?_); rintro e w2 ⟨a2, c2, rfl, hown2, hb2⟩; have hC2 := hC1.trans (hb2.mono hC1.size); obtain ⟨p0, p1, p2, p3⟩ := (hX.belowN hC2).c2; obtain ⟨b1, off1, hba, x0, x1, x2, x3, x4⟩ := getOp_eq (h1.belowN hC2) (Below.refl _ _) HX.out; subst hba))
        | (go_at_call 65; go_must ((with_reducible refine (HAS.out _).mono ?_); rw [HD.out]; rintro e w3 ⟨rfl, hb3⟩; have hC3 := hC2.trans (hb3.mono hC2.size); have hbs3 := (hown2.belowN hb3).at_; obtain ⟨p0, p1, p2, p3⟩ := (hX.belowN hC3).c2))
        | (go_at_call 66; go_must ((with_reducible refine (Right20_calls regs _ c f.flat _ ra bn _ rn rc bs rs HBN.out HRN.out false HB.out HIN.out HRS.out hfl (by omega) hrl w3 (h1.belowN hC3) hbs3 (hr1.belowN hC3)).mono ?_); rintro e w4 ⟨rfl, hb4⟩; have hC4 := hC3.trans (hb4.mono hC3.size))))
      go_ret2
      exact ⟨rfl, hb0.trans (hC4.mono hb0.size)⟩
    | true =>
      rw [if_pos ⟨hd, hB⟩, fo_flat HG.out.ok] at hV
      injection hV with hv1 hv2
      subst hv2
      have hrok := hrr.1 rfl
      have hisw : f.isW k := kind_isW f HG.out.ok k x hx hk16.1 hk16.2
      have hplc := f.plc_bd k rs hrok
      have hap := f.atw_plc k rs hrok hisw
      obtain ⟨n0, hn0⟩ : ∃ n0 : Nat, f.plc k rs = n0 := ⟨(f.plc k rs).toNat, by omega⟩
      rw [hn0, Int.toNat_natCast] at hap
      have hn0w : n0 < f.wr := by have := hplc.2.2 hisw; omega
      have hV' : V = (n0 : Int) := by rw [← hv1, hn0]
      subst hV'
      have HMK := hide (fun W h9 => Marks20_calls regs a c f HG.out W h9)
      have hbd := mks_bd f 0 [] HG.out.deep (Nat.le_refl _) HG.out.few
      obtain ⟨L, hL⟩ : ∃ L, Fo.mks 0 [] f = L := ⟨_, rfl⟩
      rw [hL] at HMK hbd
      have HHAS := hide (mks_has HG.out.ok hn0w)
      have HNUM : Hid (∀ j : Nat, L[j]? = some (k, rs) → ((L.take j).filter (wB f.flat)).length = n0) := fun j hj => by
        rw [← hL] at hj ⊢
        obtain ⟨m1, m2⟩ := mks_number HG.out.ok hj (by unfold wB; simp only [hx]; exact hd)
        obtain ⟨m3, _, _⟩ := f.plc_atw _ m2
        rw [m1, hn0] at m3
        omega
      rw [hL, hap] at HHAS
      have HLIN := hide (show ∀ y ∈ L, y.1 < f.flat.length ∧ y.2.length ≤ f.flat.length from fun y hy => by rw [← hL] at hy; have := mks_in f 0 [] y hy; simpa [Fo.size] using this)
      clear hd hbs hbn hi hx hep hin hrr hB hv1 hrok hisw hplc hap hn0 hL hST hk16
      go_enter Try.func18, Try.ntmps18
      go_wp2_with (first
        | (go_at_call 63; go_must ((with_reducible refine (HPR.out).mono ?_); rintro e w1 ⟨rfl, hC1⟩; obtain ⟨p0, p1, p2, p3⟩ := (hX.belowN hC1).c2))
        | (go_at_call 64; go_must ((with_reducible refine (Around8N a c f.flat _ _ (h1.belowN hC1) hl hi1 hi2 bs 0 bn HA.out HBN.out).mono ?_); rintro e w2 ⟨a2, c2, rfl, hown2, hb2⟩; have hC2 := hC1.trans (hb2.mono hC1.size); obtain ⟨p0, p1, p2, p3⟩ := (hX.belowN hC2).c2; obtain ⟨b1, off1, hba, x0, x1, x2, x3, x4⟩ := getOp_eq (h1.belowN hC2) (Below.refl _ _) HX.out; subst hba))
        | (go_at_call 65; go_must ((with_reducible refine (HAS.out _).mono ?_); rw [HD.out]; rintro e w3 ⟨rfl, hb3⟩; have hC3 := hC2.trans (hb3.mono hC2.size); have hbs3 := (hown2.belowN hb3).at_; obtain ⟨p0, p1, p2, p3⟩ := (hX.belowN hC3).c2))
        | (go_at_call 66; go_must ((with_reducible refine (Right20_calls regs _ c f.flat _ ra bn _ rn rc bs rs HBN.out HRN.out true HB.out HIN.out HRS.out hfl (by omega) hrl w3 (h1.belowN hC3) hbs3 (hr1.belowN hC3)).mono ?_); rintro e w4 ⟨rfl, hb4⟩; have hC4 := hC3.trans (hb4.mono hC3.size); obtain ⟨p0, p1, p2, p3⟩ := (hX.belowN hC4).c2))
        | (go_at_call 67; go_must ((with_reducible refine (HMK.out w4 (h1.belowN hC4)).mono ?_); rintro e w5 ⟨a5, c5, n5, hs5, rfl, hn5, hK5, hb5⟩; have hC5 := hC4.trans (hb5.mono hC4.size); have HN5 := hide hn5; have hn5b : n5 ≤ 1114112 := (by omega); clear hn5)))
      have hz5 := hC5.size
      go_loopw [12, 13] (fun nv kv wr => ∃ j n : Nat, kv = .int .i64 j ∧ nv = .int .i64 n ∧ j ≤ n5 ∧ n ≤ j ∧ Hid (((L.take j).filter (wB f.flat)).length = n) ∧ Hid (∀ q, q < j → L[q]? ≠ some (k, rs)) ∧ Below w5.heap.size w5 wr) (fun _ kv _ => n5 - (intOf kv).toNat)
      case atStart => exact ⟨0, 0, rfl, rfl, by omega, by omega, rfl, fun q hq => by omega, Below.refl _ _⟩
      case round =>
        obtain ⟨j, n, rfl, rfl, hj, hnj, hcn, hno, hb⟩ := hrel
        have hzr := hb.size
        by_cases hlt : j < n5
        · obtain ⟨b5, off5, y, rfl, hy, m0, m1⟩ := hK5.out.at_.getM hb (k := j) (by have := hK5.len; have := HN5.out; omega)
          obtain ⟨z, hz⟩ : ∃ z, L[j]? = some z := ⟨_, List.getElem?_eq_getElem (by have := HN5.out; omega)⟩
          obtain ⟨r1, r2, r3⟩ := (hK5.row j y z hy.out hz).belowN hb
          obtain ⟨hzl, hzr2⟩ := HLIN.out z (List.mem_of_getElem? hz)
          obtain ⟨xz, hxz⟩ : ∃ xz, f.flat[z.1]? = some xz := ⟨_, List.getElem?_eq_getElem hzl⟩
          have HFT := hide (filter_take_succ (wB f.flat) hz)
          have hwz : wB f.flat z = dOf xz.kind := by unfold wB; simp only [hxz]
          rw [hwz, hcn.out] at HFT
          obtain ⟨zi, zr⟩ := z
          obtain ⟨ya, yb, yn, yc⟩ := y
          simp only at r1 r2 r3 hzl hzr2 hxz m0 m1
          subst r1
          obtain ⟨b1', off1', hba, v0, v1, v2, v3, v4⟩ := getOp_eq (h1.belowN hC5) hb hxz
          cases hba
          have hyn : yn ≤ 4096 := by omega
          have HYN := hide r2
          have hz0 := World.block_lt_of_cell? _ _ m0
          have hz1 := World.block_lt_of_cell? _ _ v0
          have hCr := hC5.trans (hb.mono hz5)
          have hXr := hX.belowN hCr
          have hgX := hXr.lt
          obtain ⟨p0, p1, p2, p3⟩ := hXr.c2
          have i2 : (0 : Int) ≤ (zi : Int) := by omega
          have i3 : (zi : Int) < (f.flat.length : Int) := by omega
          have i4 : (0 : Int) ≤ (j : Int) := by omega
          have i5 : (j : Int) < (n5 : Int) := by omega
          have HASZ := hide (fun W => Asks_calls xz.kind W)
          have HRR := hr1.belowN hCr
          have hno' : ¬ (zi = k ∧ zr = rs) → Hid (∀ q, q < j + 1 → L[q]? ≠ some (k, rs)) := fun hne q hq => by
            by_cases hqj : q = j
            · subst hqj
              rw [hz]
              intro e
              injection e with e
              injection e with e1 e2
              exact hne ⟨e1, e2⟩
            · exact hno.out q (by omega)
          have HZ := hide hz
          clear r2 hzr2 hwz hy hz hxz
          rcases (show (zi = k ∧ zr = rs) ∨ (zi = k ∧ zr ≠ rs) ∨ zi ≠ k from by by_cases e1 : zi = k <;> by_cases e2 : zr = rs <;> simp [e1, e2]) with ⟨hzk, hzr'⟩ | ⟨hzk, hzr'⟩ | hzk
          · subst hzk
            have HI := hide (fun W h3 h4 => Ints7G yb ra yn rn yc rc zr rs HYN.out HRN.out true (decide_eq_true hzr') W h3 h4 (by omega) (by omega))
            have hnn := HNUM.out j (by rw [← hzr']; exact HZ.out)
            rw [hcn.out] at hnn
            subst hnn
            clear hzr' hno'
            go_wp2_with (go_at_call 21; go_must ((with_reducible refine (HI.out _ r3 HRR).mono ?_); rintro e w6 ⟨rfl, q6, rfl⟩))
            go_ret2
            exact ⟨rfl, hb0.trans ((below_drewN hCr q6).mono hb0.size)⟩
          · subst hzk
            have HI := hide (fun W h3 h4 => Ints7G yb ra yn rn yc rc zr rs HYN.out HRN.out false (decide_eq_false hzr') W h3 h4 (by omega) (by omega))
            have HNO := hno' (fun e => hzr' e.2)
            clear hzr' hno'
            go_wp2_with (go_at_call 21; go_must ((with_reducible refine (HI.out _ r3 HRR).mono ?_); rintro e w6 ⟨rfl, q6, hw6⟩; have hb6 : Below wr.heap.size wr w6 := hw6 ▸ below_drawn wr _ q6; clear hw6 q6))
            have hc7 := bcell hb6
            have s0 := (hc7.1 b5 _ hz0).trans m0
            have s1 := (hc7.1 b1 _ hz1).trans v0
            have s2 := (hc7.1 w.heap.size _ hgX).trans p1
            have hzw := (hb6).size
            have hd0 : Below (w6).heap.size (w6) (w6).drew := Below.drew (Below.refl _ _)
            have hq0 : b5 < (w6).heap.size := by omega
            have hq1 : b1 < (w6).heap.size := by omega
            have hq2 : w.heap.size < (w6).heap.size := by omega
            clear hc7 m0 m1 v0 v1 v2 v3 v4 p0 p1 p2 p3
            obtain ⟨dz, hdz⟩ : ∃ dz, dOf xz.kind = dz := ⟨_, rfl⟩
            rw [hdz] at HASZ HFT
            have hrl7 : ∀ W7, Below wr.heap.size wr W7 → Below w5.heap.size w5 W7 := fun W7 h7 => hb.trans (h7.mono hzr)
            clear hdz
            cases dz with
            | false =>
              go_region_held3 (fun w' => w'.cell? ⟨b5, off5 + j * 2, none⟩ = some (.int .i64 (zi : Int)) ∧ w'.cell? ⟨b1, off1 + zi * 5, none⟩ = some (.int .i64 xz.kind) ∧ w'.cell? ⟨w.heap.size, 1, none⟩ = some (.slice (some ⟨b1, off1, none⟩) f.flat.length c)) (go_keep)
                ((go_at_call 65; go_must ((with_reducible refine (HASZ.out _).mono ?_); rintro e w7 ⟨rfl, hb7⟩; have hB7 := hd0.trans (hb7.mono hd0.size); obtain ⟨y0, _⟩ := bcell hB7; have t0 := (y0 b5 (off5 + j * 2) hq0).trans s0; have t1 := (y0 b1 (off1 + zi * 5) hq1).trans s1; have t2 := (y0 w.heap.size 1 hq2).trans s2; clear y0)))
              go_wp2
              go_roundw
              case rel => exact ⟨j + 1, n, by go_num, rfl, by omega, by omega, hide (by have := HFT.out; simpa using this), HNO, hrl7 _ ((hb6).trans (hB7.mono hzw))⟩
              case measure => simp [intOf] <;> omega
            | true =>
              go_region_held3 (fun w' => w'.cell? ⟨b5, off5 + j * 2, none⟩ = some (.int .i64 (zi : Int)) ∧ w'.cell? ⟨b1, off1 + zi * 5, none⟩ = some (.int .i64 xz.kind) ∧ w'.cell? ⟨w.heap.size, 1, none⟩ = some (.slice (some ⟨b1, off1, none⟩) f.flat.length c)) (go_keep)
                ((go_at_call 65; go_must ((with_reducible refine (HASZ.out _).mono ?_); rintro e w7 ⟨rfl, hb7⟩; have hB7 := hd0.trans (hb7.mono hd0.size); obtain ⟨y0, _⟩ := bcell hB7; have t0 := (y0 b5 (off5 + j * 2) hq0).trans s0; have t1 := (y0 b1 (off1 + zi * 5) hq1).trans s1; have t2 := (y0 w.heap.size 1 hq2).trans s2; clear y0)))
              go_wp2
              go_roundw
              case rel => exact ⟨j + 1, n + 1, by go_num, by go_num, by omega, by omega, hide (by have := HFT.out; simpa using this), HNO, hrl7 _ ((hb6).trans (hB7.mono hzw))⟩
              case measure => simp [intOf] <;> omega
          · have HNO := hno' (fun e => hzk e.1)
            have e1 : ((zi : Int) == (k : Int)) = false := by simp; omega
            have hb6 : Below wr.heap.size wr wr := Below.refl _ _
            clear hzk hno'
            go_wp2
            have hc7 := bcell hb6
            have s0 := (hc7.1 b5 _ hz0).trans m0
            have s1 := (hc7.1 b1 _ hz1).trans v0
            have s2 := (hc7.1 w.heap.size _ hgX).trans p1
            have hzw := (hb6).size
            have hd0 : Below (wr).heap.size (wr) (wr).drew := Below.drew (Below.refl _ _)
            have hq0 : b5 < (wr).heap.size := by omega
            have hq1 : b1 < (wr).heap.size := by omega
            have hq2 : w.heap.size < (wr).heap.size := by omega
            clear hc7 m0 m1 v0 v1 v2 v3 v4 p0 p1 p2 p3
            obtain ⟨dz, hdz⟩ : ∃ dz, dOf xz.kind = dz := ⟨_, rfl⟩
            rw [hdz] at HASZ HFT
            have hrl7 : ∀ W7, Below wr.heap.size wr W7 → Below w5.heap.size w5 W7 := fun W7 h7 => hb.trans (h7.mono hzr)
            clear hdz
            cases dz with
            | false =>
              go_region_held3 (fun w' => w'.cell? ⟨b5, off5 + j * 2, none⟩ = some (.int .i64 (zi : Int)) ∧ w'.cell? ⟨b1, off1 + zi * 5, none⟩ = some (.int .i64 xz.kind) ∧ w'.cell? ⟨w.heap.size, 1, none⟩ = some (.slice (some ⟨b1, off1, none⟩) f.flat.length c)) (go_keep)
                ((go_at_call 65; go_must ((with_reducible refine (HASZ.out _).mono ?_); rintro e w7 ⟨rfl, hb7⟩; have hB7 := hd0.trans (hb7.mono hd0.size); obtain ⟨y0, _⟩ := bcell hB7; have t0 := (y0 b5 (off5 + j * 2) hq0).trans s0; have t1 := (y0 b1 (off1 + zi * 5) hq1).trans s1; have t2 := (y0 w.heap.size 1 hq2).trans s2; clear y0)))
              go_wp2
              go_roundw
              case rel => exact ⟨j + 1, n, by go_num, rfl, by omega, by omega, hide (by have := HFT.out; simpa using this), HNO, hrl7 _ ((hb6).trans (hB7.mono hzw))⟩
              case measure => simp [intOf] <;> omega
            | true =>
              go_region_held3 (fun w' => w'.cell? ⟨b5, off5 + j * 2, none⟩ = some (.int .i64 (zi : Int)) ∧ w'.cell? ⟨b1, off1 + zi * 5, none⟩ = some (.int .i64 xz.kind) ∧ w'.cell? ⟨w.heap.size, 1, none⟩ = some (.slice (some ⟨b1, off1, none⟩) f.flat.length c)) (go_keep)
                ((go_at_call 65; go_must ((with_reducible refine (HASZ.out _).mono ?_); rintro e w7 ⟨rfl, hb7⟩; have hB7 := hd0.trans (hb7.mono hd0.size); obtain ⟨y0, _⟩ := bcell hB7; have t0 := (y0 b5 (off5 + j * 2) hq0).trans s0; have t1 := (y0 b1 (off1 + zi * 5) hq1).trans s1; have t2 := (y0 w.heap.size 1 hq2).trans s2; clear y0)))
              go_wp2
              go_roundw
              case rel => exact ⟨j + 1, n + 1, by go_num, by go_num, by omega, by omega, hide (by have := HFT.out; simpa using this), HNO, hrl7 _ ((hb6).trans (hB7.mono hzw))⟩
              case measure => simp [intOf] <;> omega
        · exfalso
          obtain ⟨q, hq⟩ := HHAS.out
          have h9 := (List.getElem?_eq_some_iff.1 hq).1
          exact hno.out q (by have := HN5.out; omega) hq
end Go.Proofs.Ythncfoompoheoaa
