/- Chapter 20: right, place. -/
import Derived.Test.YthncfoompoheoaaS20a
import Derived.IntWalk
namespace Go.Proofs.Ythncfoompoheoaa
set_option linter.unusedVariables false
set_option linter.unusedSimpArgs false
open Go.RowKit
theorem quietAL {P : Program} {f : FuncId} {args : Array Value} {w : World} {a n : Nat} {v : Value}
    (h : Calls P f args (w.drewN (a + n)) fun e w' => e = .returned v ∧ w.drewN (a + n) = w') :
    Calls P f args (w.drewN (a + n)) fun e w'' => e = .returned v ∧ ∃ m, w'' = w.drewN (a + m) :=
  h.mono fun _ _ ⟨he, hm⟩ => ⟨he, n, hm.symm⟩
theorem quietL {P : Program} {f : FuncId} {args : Array Value} {w : World} {n : Nat} {v : Value}
    (h : Calls P f args (w.drewN n) fun e w' => e = .returned v ∧ w.drewN n = w') : Calls P f args (w.drewN n) fun e w'' => e = .returned v ∧ ∃ m, w'' = w.drewN m :=
  h.mono fun _ _ ⟨he, hm⟩ => ⟨he, n, hm.symm⟩
theorem PlanAt.drewN {W : World} {g : Nat} {f : Fo} (h : PlanAt W g f) (n : Nat) : PlanAt (W.drewN n) g f := by
  obtain ⟨a, am, az, ar, c, cm, cz, cr, h0, h1, h2, h3, h4⟩ := h
  exact ⟨a, am, az, ar, c, cm, cz, cr, h0.drewN n, h1.drewN n, h2.drewN n, h3.drewN n, h4.drewN n⟩
/-- are rounds those of blocks? -/
def rgt (l : List OpD) : List Int → List Int → Bool
  | [], [] => true
  | b :: bs, r :: rs => decide (0 ≤ r) && decide (r < ((vAt l b).toNat : Int)) && rgt l bs rs
  | _, _ => false
theorem rgt_length {l : List OpD} : ∀ {bs rs : List Int}, rgt l bs rs = true → bs.length = rs.length
  | [], [], _ => rfl
  | b :: bs, r :: rs, h => by
    simp only [rgt, Bool.and_eq_true] at h
    simp [rgt_length h.2]
  | [], r :: rs, h => by simp [rgt] at h
  | b :: bs, [], h => by simp [rgt] at h
theorem vAt_stands {l : List OpD} {m : List Int} {o : Nat} {op fin : OpD} {b r : Fo} (h : Stands l m o (.rep op b fin r)) : vAt l (o : Int) = op.v := by
  unfold vAt
  simp only [Int.toNat_natCast]
  rw [h.rep.1]; rfl
theorem rgt_rok {l : List OpD} {m : List Int} : ∀ (t : List Int) (q : Fo) (o j : Nat) (rs : List Int), Stands l m o q → j ≤ q.size → Fo.pth o q j = t → (rgt l t rs = true ↔ q.rok j rs) := by
  intro t
  induction t with
  | nil =>
    intro q o j rs hs hj ht
    rw [q.rok_nil o j hj ht rs]
    cases rs <;> simp [rgt]
  | cons b t ih =>
    intro q o j rs hs hj ht
    obtain ⟨d, op, b', fin, r, e1, e2, e3, e4, e5, e6, e7, e8, e9, e10⟩ := Fo.pth_cons q o j b t hs ht
    rw [e10 rs, e1]
    cases rs with
    | nil => simp [rgt]
    | cons k rs =>
      simp only [rgt, Bool.and_eq_true, decide_eq_true_eq]
      rw [vAt_stands e3, ih b' (o + d + 1) (j - d - 1) rs e3.rep.2.2.2.2.2.2.1 (by omega) e6.symm]
      constructor
      · rintro ⟨⟨a1, a2⟩, a3⟩; exact ⟨k, rs, rfl, a1, a2, a3⟩
      · rintro ⟨k', t', h1, a1, a2, a3⟩
        injection h1 with h1 h2
        subst h1 h2
        exact ⟨⟨a1, a2⟩, a3⟩
theorem pth_in {l : List OpD} {m : List Int} : ∀ (t : List Int) (q : Fo) (o j : Nat), Stands l m o q → Fo.pth o q j = t → ∀ b ∈ t, 0 ≤ b ∧ b.toNat < l.length := by
  intro t
  induction t with
  | nil => intro q o j _ _ b hb; cases hb
  | cons b t ih =>
    intro q o j hs ht x hx
    obtain ⟨d, op, b', fin, r, e1, e2, e3, e4, e5, e6, e7, e8, e9, e10⟩ := Fo.pth_cons q o j b t hs ht
    rcases List.mem_cons.1 hx with rfl | hx
    · have := (List.getElem?_eq_some_iff.1 e3.rep.1).1
      exact ⟨by omega, by omega⟩
    · exact ih b' (o + d + 1) (j - d - 1) e3.rep.2.2.2.2.2.2.1 e6.symm x hx
set_option maxHeartbeats 1600000 in
theorem right_calls (g : Nat) (f : Fo) (ba ra : Option Addr) (bn bc rn rc : Nat) (bs rs : List Int) (hbn : bn = bs.length) (hrn : rn = rs.length) (B : Bool) (hB : rgt f.flat bs rs = B) (hin : ∀ b ∈ bs, 0 ≤ b ∧ b.toNat < f.flat.length) (hrs : ∀ r ∈ rs, -9223372036854775808 ≤ r ∧ r ≤ 9223372036854775807) (hl : f.flat.length ≤ 4096) (hbl : bn ≤ 1000000) (hrl : rn ≤ 1000000) (w : World) (h : PlanAt w g f) (h1 : At w ba bs) (h2 : At w ra rs) :
    Calls Try.prog 61 #[.pointer (some ⟨g, 0, none⟩), .slice ba bn bc, .slice ra rn rc] w fun e w' => e = .returned (.bool B) ∧ ∃ n, w' = w.drewN n := by
  obtain ⟨a, am, az, ar, c, cm, cz, cr, k0, k1, k2, k3, k4⟩ := h
  obtain ⟨p0, p1, p2, p3, p4, p5, p6, p7⟩ := k0.c4
  by_cases hbr : bn = rn
  case neg =>
    have hBf : B = false := by
      rw [← hB]
      cases hq : rgt f.flat bs rs with
      | false => rfl
      | true => exact absurd (by rw [hbn, hrn, rgt_length hq]) hbr
    have hd : ((bn : Int) == (rn : Int)) = false := by simp; omega
    have hd2 : ((bn : Int) != (rn : Int)) = true := by simp; omega
    subst hBf
    clear hB hin hrs hbn hrn
    go_enter Try.func61, Try.ntmps61
    go_wp2
    go_ret
    exact ⟨rfl, 0, rfl⟩
  subst hbr
  have HBN := hide hbn
  have HRN := hide hrn
  have HB := hide hB
  have HIN := hide hin
  have HRS := hide hrs
  clear hbn hrn hB hin hrs
  go_enter Try.func61, Try.ntmps61
  go_wp2
  go_loopw [7, 8, 16] (fun _ _ iv wr => ∃ k : Nat, iv = .int .i64 k ∧ k ≤ bn ∧ Hid (rgt f.flat (bs.drop k) (rs.drop k) = B) ∧ ∃ d, wr = w.drewN d) (fun _ _ iv _ => bn - (intOf iv).toNat)
  case atStart => exact ⟨0, rfl, by omega, HB.out, 0, rfl⟩
  case round =>
    obtain ⟨k, rfl, hk, hB, d, rfl⟩ := hrel
    by_cases hkn : k < bn
    · obtain ⟨b1, off1, x, hba, hx, c0⟩ := h1.getI (Below.refl _ _) (by rw [← HBN.out]; exact hkn)
      subst hba
      obtain ⟨b2, off2, y, hba, hy, d0⟩ := h2.getI (Below.refl _ _) (by rw [← HRN.out]; exact hkn)
      subst hba
      obtain ⟨x0, x1⟩ := HIN.out x (List.mem_of_getElem? hx.out)
      obtain ⟨y0, y1⟩ := HRS.out y (List.mem_of_getElem? hy.out)
      obtain ⟨xn, rfl⟩ := Int.eq_ofNat_of_zero_le x0
      simp only [Int.ofNat_eq_natCast, Int.toNat_natCast] at *
      obtain ⟨b3, off3, op, hba, ho, o0, o1, o2, o3, o4⟩ := k1.getOp (Below.refl _ _) x1
      subst hba
      have hB2 := hB.out
      rw [drop_at hx.out, drop_at hy.out, rgt] at hB2
      have hv : vAt f.flat (xn : Int) = op.v := by unfold vAt; simp only [Int.toNat_natCast]; rw [ho.out]; rfl
      rw [hv] at hB2
      have hv2 := op.v.toNat_lt
      obtain ⟨V, hV⟩ : ∃ V, V = op.v.toNat := ⟨_, rfl⟩
      rw [← hV] at o4 hB2 hv2
      have i0 : (0 : Int) ≤ (k : Int) := by omega
      have i1 : (k : Int) < (bn : Int) := by omega
      have i3 : (xn : Int) < (f.flat.length : Int) := by omega
      have HB2 := hide hB2
      clear hx hy ho hB2 hv hV hB
      rcases Int.lt_or_le y 0 with hy0 | hy0
      · have e1 : decide (y < 0) = true := by simpa using hy0
        have HF : Hid (B = false) := by show B = false; rw [← HB2.out, decide_eq_false (by omega)]; rfl
        go_wp2
        go_quiet (fail)
        go_wp2
        go_ret
        exact ⟨by rw [HF.out]; rfl, by first | exact ⟨_, rfl⟩ | exact ⟨_, World.drewN_drewN _ _ _⟩⟩
      · have e1 : decide (y < 0) = false := by simpa using hy0
        have e4 : IntKind.u64.wrap y = y := IntWalk.u64_in _ (by omega)
        rcases Int.lt_or_le y V with hyv | hyv
        · have e2 : decide ((V : Int) ≤ y) = false := by simpa using hyv
          have HF : Hid (rgt f.flat (bs.drop (k + 1)) (rs.drop (k + 1)) = B) := by show _ = B; rw [← HB2.out, decide_eq_true hy0, decide_eq_true hyv]; rfl
          go_wp2
          go_quiet (fail)
          go_wp2
          go_roundw
          case rel => exact ⟨k + 1, by go_num, by omega, HF.out, _, rfl⟩
          case measure => simp [intOf]; omega
        · have e2 : decide ((V : Int) ≤ y) = true := by simpa using hyv
          have HF : Hid (B = false) := by show B = false; rw [← HB2.out, decide_eq_false (show ¬ y < (V : Int) by omega)]; simp
          go_wp2
          go_quiet (fail)
          go_wp2
          go_ret
          exact ⟨by rw [HF.out]; rfl, by first | exact ⟨_, rfl⟩ | exact ⟨_, World.drewN_drewN _ _ _⟩⟩
    · have HT : Hid (B = true) := by
        show B = true
        rw [← hB.out, show k = bn by omega]
        have e1 := HBN.out
        have e2 := HRN.out
        rw [List.drop_eq_nil_of_le (by omega), List.drop_eq_nil_of_le (by omega)]
        rfl
      go_wp2
      go_ret
      exact ⟨by rw [HT.out]; rfl, _, rfl⟩
set_option maxHeartbeats 3200000 in
theorem place_calls (g : Nat) (f : Fo) (hf : f.ok) (hm : f.may = true) (hw : f.wr ≤ 65536) (j : Nat) (hj : j ≤ f.size) (J : Int) (hJ : J = (j : Int)) (ba ra : Option Addr) (bn bc rn rc : Nat) (rs : List Int) (hbn : bn = (Fo.pth 0 f j).length) (hrn : rn = rs.length) (hbr : bn = rn) (hp : f.prd j rs) (R : Int) (hR : f.plc j rs = R)
    (hl : f.flat.length ≤ 4096) (hbl : bn ≤ 10000) (w : World) (h : PlanAt w g f) (h1 : At w ba (Fo.pth 0 f j)) (h2 : At w ra rs) :
    Calls Try.prog 62 #[.pointer (some ⟨g, 0, none⟩), .int .i64 J, .slice ba bn bc, .slice ra rn rc] w fun e w' => e = .returned (.int .i64 R) ∧ ∃ n, w' = w.drewN n := by
  have HPL := hide h
  obtain ⟨a, am, az, ar, c, cm, cz, cr, k0, k1, k2, k3, k4⟩ := h
  obtain ⟨p0, p1, p2, p3, p4, p5, p6, p7⟩ := k0.c4
  subst hbr hJ
  obtain ⟨bs, hbs⟩ : ∃ bs, bs = Fo.pth 0 f j := ⟨_, rfl⟩
  rw [← hbs] at hbn h1
  have HBN := hide hbn
  have HRN := hide hrn
  have HR := hide hR
  have HP := hide hp
  have HBS := hide hbs
  have HJ := hide hj
  clear hbn hrn hR hp hbs hj
  have hjl : j ≤ f.flat.length := HJ.out
  go_enter Try.func62, Try.ntmps62
  go_wp2
  go_loopw [9, 10, 11, 12, 15] (fun fv nv _ _ iv wr => ∃ (k : Nat) (q : Fo) (o j' : Nat) (s : Int), iv = .int .i64 k ∧ fv = .int .i64 o ∧ nv = .int .i64 s ∧ k ≤ bn ∧ Hid (0 ≤ s ∧ s ≤ 131072 * (k : Int)) ∧ Hid (o + j' = j) ∧ Hid (Stands f.flat (matchL f.flat) o q) ∧ Hid (j' ≤ q.size) ∧ Hid (bs.drop k = Fo.pth o q j') ∧ Hid (q.prd j' (rs.drop k)) ∧ Hid (s + q.plc j' (rs.drop k) = R) ∧ Hid (q.wr ≤ 65536) ∧ ∃ d, wr = w.drewN d) (fun _ _ _ _ iv _ => bn - (intOf iv).toNat)
  case atStart => exact ⟨0, f, 0, j, 0, rfl, rfl, rfl, by omega, hide ⟨by omega, by omega⟩, by show 0 + j = j; omega, hide (Stands.whole hf), HJ.out, HBS.out, HP.out, by have := HR.out; show 0 + f.plc j rs = R; omega, hw, 0, rfl⟩
  case round =>
    obtain ⟨k, q, o, j', s, rfl, rfl, rfl, hk, hs, hoj, hst, hjq, hbd, hpr, hsr, hqw, d, rfl⟩ := hrel
    obtain ⟨s0, s1⟩ := hs.out
    by_cases hkn : k < bn
    · obtain ⟨b1, off1, x, hba, hx, c0⟩ := h1.getI (Below.refl _ _) (by rw [← HBN.out]; exact hkn)
      subst hba
      obtain ⟨b2, off2, y, hba, hy, d0⟩ := h2.getI (Below.refl _ _) (by rw [← HRN.out]; exact hkn)
      subst hba
      have hbd2 := hbd.out
      rw [drop_at hx.out] at hbd2
      obtain ⟨dd, op, b, fin, r, e1, e2, e3, e4, e5, e6, e7, e8, e9, e10⟩ := Fo.pth_cons q o j' x (bs.drop (k + 1)) hst.out hbd2.symm
      have hpr2 := hpr.out
      rw [drop_at hy.out] at hpr2
      obtain ⟨y', t', f1, f2, f3, f4⟩ := e9 _ hpr2
      injection f1 with f0 f1
      subst f0 f1
      have hsr2 := hsr.out
      rw [drop_at hy.out, e8] at hsr2
      simp only [List.headD_cons, List.tail_cons] at hsr2
      obtain ⟨h71, h72, h73, h74, h75, h76⟩ := plan_rep hf e3
      obtain ⟨b3, off3, hba, o0⟩ := getI_at k4 h75
      subst hba
      have hbw := (may_all hf hm e3).1
      have htq := q.top_le dd
      have hqw' := hqw.out
      obtain ⟨W, hW⟩ : ∃ W, W = b.wr := ⟨_, rfl⟩
      obtain ⟨T, hT⟩ : ∃ T, T = q.top dd := ⟨_, rfl⟩
      obtain ⟨P, hP⟩ : ∃ P, P = y * (W : Int) := ⟨_, rfl⟩
      obtain ⟨X, hX⟩ : ∃ X, X = o + dd := ⟨_, rfl⟩
      have HAH := hide (fun w' (hh : PlanAt w' g f) => ahead_calls g f hf hl hw o dd q hst.out e2 hqw.out (o : Int) x rfl e1 w' hh)
      rw [← hW] at o0 f2 f3 hsr2
      rw [← hT] at hsr2 htq HAH
      rw [← hP] at f2 f3 hsr2
      have HE1 := hide e1
      rw [← hX] at e1 o0
      have i0 : (0 : Int) ≤ (k : Int) := by omega
      have i1 : (k : Int) < (bn : Int) := by omega
      have hXl : X < f.flat.length := by rw [hX]; omega
      have i3 : (X : Int) < (f.flat.length : Int) := by omega
      have hT6 : T ≤ 65536 := by omega
      have hmul : IntKind.i64.wrap (y * (W : Int)) = P := by rw [← hP]; exact IntWalk.i64_in _ (by omega)
      have hsum : IntKind.i64.wrap ((T : Int) + P) = (T : Int) + P := IntWalk.i64_in _ (by omega)
      have hsum2 : IntKind.i64.wrap (s + ((T : Int) + P)) = s + ((T : Int) + P) := IntWalk.i64_in _ (by omega)
      have HSR := hide hsr2
      have HE6 := hide e6
      have HF4 := hide f4
      have HE3 := hide e3
      have HW := hide hW
      have hk131 : s + ((T : Int) + P) ≤ 131072 * ((k : Int) + 1) := by omega
      have h0s : 0 ≤ s + ((T : Int) + P) := by omega
      have HKS := hide (And.intro h0s hk131)
      have HO2 := hide (show (o + dd + 1) + (j' - dd - 1) = j by have := hoj.out; omega)
      have HBJ := hide (show j' - dd - 1 ≤ b.size by omega)
      have hbw2 := hide hbw
      have HX := hide hX
      obtain rfl : x = (X : Int) := by rw [e1]
      clear hbd2 hpr2 hsr2 e1 e2 e3 e4 e5 e6 e7 e8 e9 e10 f2 f3 f4 h71 h72 h73 h74 h75 h76 hx hy htq hqw' hT hP hW hX hbw hk131 h0s hs s0 s1
      go_wp2
      go_quiet ((go_at_call 68; first | exact quietAL (HAH.out _ (HPL.out.drewN _)) | exact quietL (HAH.out _ (HPL.out.drewN _))))
      go_wp2
      go_roundw
      case rel =>
        refine ⟨k + 1, b, X + 1, j' - dd - 1, s + ((T : Int) + P), by go_num, by go_num, rfl, by omega, ?_, ?_, ?_, HBJ.out, ?_, HF4.out, ?_, hbw2.out, _, rfl⟩
        · have := HKS.out; show _ ∧ _; omega
        · have := HO2.out; have := HX.out; show X + 1 + _ = j; omega
        · show Stands _ _ _ _; rw [HX.out]; exact HE3.out.rep.2.2.2.2.2.2.1
        · show _ = _; rw [HX.out]; exact HE6.out
        · have := HSR.out; show s + ((T : Int) + P) + b.plc (j' - dd - 1) (rs.drop (k + 1)) = R; omega
      case measure => simp [intOf]; omega
    · have hkb : k = bn := by omega
      have hnil : Fo.pth o q j' = [] := by rw [← hbd.out, hkb, HBN.out, List.drop_length]
      obtain ⟨e2, e3⟩ := q.pth_nil o j' hjq.out hnil
      have hsr2 := hsr.out
      rw [e3] at hsr2
      have HAH := hide (fun w' (hh : PlanAt w' g f) => ahead_calls g f hf hl hw o j' q hst.out e2 hqw.out (o : Int) (j : Int) rfl (by rw [← hoj.out]) w' hh)
      have htq := q.top_le j'
      have hqw' := hqw.out
      obtain ⟨T, hT⟩ : ∃ T, T = q.top j' := ⟨_, rfl⟩
      rw [← hT] at hsr2 htq HAH
      have HSR := hide hsr2
      clear hsr2 e2 e3 hnil hkb hT
      go_wp2_with (go_at_call 68; go_must ((with_reducible refine (HAH.out _ (HPL.out.drewN _)).mono ?_); rintro e w9 ⟨rfl, rfl⟩))
      go_ret
      exact ⟨by rw [← HSR.out]; rfl, _, rfl⟩
end Go.Proofs.Ythncfoompoheoaa
