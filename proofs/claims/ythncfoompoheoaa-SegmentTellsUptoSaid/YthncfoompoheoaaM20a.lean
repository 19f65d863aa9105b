/- Chapter 20, the document's answers: with, marks, Marks. -/
import Derived.Test.YthncfoompoheoaaMm
import Derived.Test.YthncfoompoheoaaQj
import Derived.Test.YthncfoompoheoaaQf
import Derived.Test.YthncfoompoheoaaQf
namespace Go.Proofs.Ythncfoompoheoaa
set_option linter.unusedVariables false
set_option linter.unusedSimpArgs false
open Go.RowKit
theorem tyM : Ty Try.prog 114 117 HdM := Ty.of (z := .agg #[.int .i64 0, .slice none 0 0]) (size := 2) (bytes := 32) Try.underlying114 (by kernel_rfl) rfl (by decide) rfl
set_option maxHeartbeats 800000 in
theorem With20_calls (ra : Option Addr) (rn rc : Nat) (rs : List Int) (hrn : rn = rs.length) (k : Int) (w : World) (hr : At w ra rs) (hl : rn ≤ 1000000) :
    Calls Try.prog 71 #[.slice ra rn rc, .int .i64 k] w fun e w' => ∃ a' c', e = .returned (.slice a' (rn + 1) c') ∧ Own w' w.heap.size 3 a' c' (rs ++ [k]) ∧ Below w.heap.size w w' := by
  have HRN := hide hrn
  clear hrn
  go_enter Try.func71, Try.ntmps71
  go_wp2
  go_loopw [5, 6] (fun bv iv wr => ∃ (j : Nat) (ab : Option Addr) (cb : Nat), iv = .int .i64 j ∧ j ≤ rn ∧ bv = .slice ab j cb ∧ Own wr w.heap.size 3 ab cb (rs.take j) ∧ Below w.heap.size w wr) (fun _ iv _ => rn - (intOf iv).toNat)
  case atStart => exact ⟨0, _, 0, rfl, by omega, rfl, Own.new w (Nat.le_refl _) _ Int, below_new12 w _⟩
  case round =>
    obtain ⟨j, ab, cb, rfl, hj, rfl, hB, hb⟩ := hrel
    have hzr := hb.size
    by_cases hlt : j < rn
    · obtain ⟨b1, off1, x, rfl, hx, c0⟩ := hr.getI hb (show j < rs.length by have := HRN.out; omega)
      have HX := hide (show rs.take j ++ [x] = rs.take (j + 1) by rw [List.take_add_one, hx.out]; rfl)
      have HKL := hide (show j = (rs.take j).length by have := HRN.out; rw [List.length_take]; omega)
      go_wp2_with (at_builtin; refine wpList_push tyI hB x rfl rfl rfl rfl rfl rfl HKL.out hzr (by omega) ?_; intro a8 c8 w8 hown8 hg8 _)
      go_roundw
      case rel => exact ⟨j + 1, a8, c8, by go_num, by omega, rfl, by rw [← HX.out]; exact hown8, below_push hb hB hg8 hzr⟩
      case measure => simp [intOf] <;> omega
    · have hjn : j = rn := by omega
      subst hjn
      rw [show rs.take j = rs by rw [HRN.out, List.take_length]] at hB
      go_wp2_with (at_builtin; refine wpList_push tyI hB k rfl rfl rfl rfl rfl rfl HRN.out hzr (by omega) ?_; intro a8 c8 w8 hown8 hg8 _)
      go_ret
      exact ⟨a8, c8, rfl, hown8, below_push hb hB hg8 hzr⟩
def rkN (b : Fo) (o : Nat) (rs : List Int) (k : Nat) : List (Nat × List Int) := ((List.range k).map (mkR b o rs)).flatten
theorem rkN_zero (b : Fo) (o : Nat) (rs : List Int) : rkN b o rs 0 = [] := rfl
theorem rkN_succ (b : Fo) (o : Nat) (rs : List Int) (k : Nat) : rkN b o rs (k + 1) = rkN b o rs k ++ mkR b o rs k := by
  unfold rkN
  rw [List.range_succ, List.map_append, List.flatten_append]; simp
theorem rkN_le (b : Fo) (o : Nat) (rs : List Int) {k n : Nat} (h : k ≤ n) : (rkN b o rs k).length ≤ (rkN b o rs n).length := by
  induction n with
  | zero => obtain rfl : k = 0 := by omega
            exact Nat.le_refl _
  | succ n ih =>
    by_cases hk : k ≤ n
    · have := ih hk; rw [rkN_succ, List.length_append]; omega
    · obtain rfl : k = n + 1 := by omega
      exact Nat.le_refl _
def Marks20 (a am : Option Addr) (c cm : Nat) (l : List OpD) (m : List Int) (f : Fo) : Prop :=
  ∀ (o D : Nat) (F T : Int) (ra : Option Addr) (rn rc : Nat) (rs : List Int) (w : World), F = (o : Int) → T = ((o + f.size : Nat) : Int) → At w a l → At w am m → Stands l m o f → f.dp ≤ D → rn = rs.length → rn + D ≤ 8 → f.wr ≤ 65536 → At w ra rs → (∀ q, ra.map (·.block) = some q → q < w.heap.size) → rn ≤ rc →
    Calls Try.prog 115 #[.slice a l.length c, .slice am m.length cm, .int .i64 F, .int .i64 T, .slice ra rn rc] w fun e w' => ∃ a' c' n hs, e = .returned (.slice a' n c') ∧ n = (Fo.mks o rs f).length ∧ OwnK w' w.heap.size 117 ra a' c' hs (Fo.mks o rs f) ∧ Below w.heap.size w w'
theorem mks_bd (f : Fo) (o : Nat) (rs : List Int) {D : Nat} (hd : f.dp ≤ D) (hD : D ≤ 8) (hw : f.wr ≤ 65536) : (Fo.mks o rs f).length ≤ 1114112 := by
  have h1 := mks_le f 8 o rs (by omega)
  omega
section
variable {a am : Option Addr} {c cm : Nat} {l : List OpD} {m : List Int}
set_option maxRecDepth 100000 in
set_option maxHeartbeats 6400000 in
theorem marks20_all (hl : l.length ≤ 1000000) : ∀ (N : Nat) (f : Fo), f.size < N → Marks20 a am c cm l m f := by
  intro N
  induction N with
  | zero => intro f hf; omega
  | succ N ih =>
    intro f hf o D F T ra rn rc rs w hF hT h hm hs hdp hrn hrD hwr hr hrb hrc
    obtain ⟨hl1, hl2⟩ := hs.lt
    have IH := hide ih
    obtain ⟨Z, hZ⟩ : ∃ Z, Z = o + f.size := ⟨_, rfl⟩
    have HZ := hide hZ
    have HS := hide hs
    rw [← hZ] at hl1 hl2 hT
    have hbd := mks_bd f o rs hdp (by omega) hwr
    obtain ⟨R, hR⟩ : ∃ R, R = Fo.mks o rs f := ⟨_, rfl⟩
    have HR := hide hR
    rw [← hR] at hbd ⊢
    subst hF hT
    have HRN := hide hrn
    have HRB := hide hrb
    have hfz : f.size < N + 1 := hf
    clear ih hs hR hZ hrn hrb
    go_enter Try.func115, Try.ntmps115
    go_wp2
    go_loopw [11, 12] (fun ov iv wr => ∃ (g : Fo) (o' n : Nat) (ao : Option Addr) (co : Nat) (hs : List HdM) (X : List (Nat × List Int)), iv = .int .i64 o' ∧ ov = .slice ao n co ∧ Hid (n = X.length) ∧ n ≤ 1114112 ∧ Hid (o' + g.size = Z) ∧ o' ≤ Z ∧ Hid (g.size < N + 1) ∧ Hid (Stands l m o' g) ∧ Hid (g.dp ≤ D) ∧ Hid (g.wr ≤ 65536) ∧ Hid (X ++ Fo.mks o' rs g = R) ∧
      OwnK wr w.heap.size 117 ra ao co hs X ∧ Below w.heap.size w wr) (fun _ iv _ => Z - (intOf iv).toNat)
    case atStart => exact ⟨f, o, 0, _, 0, [], [], rfl, rfl, rfl, by omega, HZ.out.symm, by have := HZ.out; omega, hfz, HS.out, hdp, hwr, by have := HR.out; simp [Hid, this], OwnK.nil (Own.new w (Nat.le_refl _) _ HdM), below_new12 w _⟩
    case round =>
      obtain ⟨g, o', n, ao, co, hs, X, rfl, rfl, hn, hn5, hgz, hoz, hgn, hgs, hgd, hgw, hx5, hoo, hb⟩ := hrel
      have hzr := hb.size
      cases g with
      | nil =>
        have ez : o' = Z := hgz.out
        have ex : X = R := by have := hx5.out; simpa [Fo.mks] using this
        have HN := hide (hn.out.trans (by rw [ex]) : n = R.length)
        subst ex
        have hz1 : Z ≤ o' := by omega
        clear ez
        go_wp2
        go_ret
        exact ⟨ao, co, n, hs, rfl, hn.out, hoo, hb⟩
      | leaf op r =>
        obtain ⟨e1, k1, k2, e2, hsr'⟩ := hgs.out.leaf
        have hgz' := hgz.out
        have hgn' := hgn.out
        have hxw := hx5.out
        rw [Fo.size_leaf] at hgz' hgn'
        simp only [Fo.mks] at hxw
        have hoz' : o' < Z := by omega
        have hol : o' < l.length := by omega
        have hnR : n < R.length := by rw [hn.out, ← hxw]; simp
        obtain ⟨b1, off1, rfl, x0, x1, x2, x3, x4⟩ := getOp_eq h hb e1
        have hk7 : (op.kind == 7) = false := by simp; omega
        have hn7 : (op.kind != 7) = true := by simp; omega
        have HXW := hide hxw
        have HGZ := hide hgz'
        have HGN := hide hgn'
        have HST := hide hsr'
        have HGD := hide (show r.dp ≤ D by have := hgd.out; simpa [Fo.dp] using this)
        have HGW := hide (show r.wr ≤ 65536 by have := hgw.out; simp only [Fo.wr] at this; omega)
        have HNL := hide (hn.out.trans hoo.len.symm)
        clear e1 hgz' hgn' hsr' e2 k1 k2 hxw
        go_wp2_with (at_builtin; refine wpList_push tyM hoo.out (⟨o', ra, rn, rc⟩ : HdM) rfl rfl rfl rfl rfl rfl HNL.out hzr (by omega) ?_; intro a4 c4 w4 hown4 hg4 hm4)
        go_roundw
        case rel =>
          refine ⟨r, o' + 1, n + 1, a4, c4, hs ++ [(⟨o', ra, rn, rc⟩ : HdM)], X ++ [(o', rs)], by go_num, rfl, by show n + 1 = _; rw [hn.out]; simp, by omega, by have := HGZ.out; show o' + 1 + r.size = Z; omega, by omega, by have := HGN.out; show r.size < N + 1; omega, HST.out, HGD.out, HGW.out, by have := HXW.out; show X ++ [(o', rs)] ++ Fo.mks (o' + 1) rs r = R; rw [← this]; simp, ?_, below_push hb hoo.out hg4 hzr⟩
          refine hoo.push hown4 hg4 hm4 ⟨rfl, HRN.out, hr.belowN hb⟩ (fun q hq => ⟨.inl hq, Nat.lt_of_lt_of_le (HRB.out q hq) hzr, fun e => ?_⟩) hrc
          have h1 := HRB.out q hq
          have h2 := (hoo.out.blk q e).1
          omega
        case measure => simp [intOf]; omega
      | rep op b fin r =>
        obtain ⟨e1, k7, e3, e4, e5, e6, hsb, hsr'⟩ := hgs.out.rep
        have hgz' := hgz.out
        have hgn' := hgn.out
        have hgd' := hgd.out
        have hgw' := hgw.out
        rw [Fo.size_rep] at hgz' hgn'
        simp only [Fo.dp] at hgd'
        simp only [Fo.wr] at hgw'
        have hoz' : o' < Z := by omega
        have hol : o' < l.length := by omega
        have hom : o' < m.length := by omega
        obtain ⟨V, hV⟩ : ∃ V, V = op.v.toNat := ⟨_, rfl⟩
        obtain ⟨VV, hVV⟩ : ∃ VV : Nat, VV = if b.wr = 0 then 0 else V := ⟨_, rfl⟩
        rw [← hV] at hgw'
        have hvv1 : VV ≤ V := by rw [hVV]; split <;> omega
        have hvv2 : VV ≤ 65536 := by
          rw [hVV]
          split
          · omega
          · have := Nat.le_mul_of_pos_left V (show 0 < b.wr by omega); omega
        have hxw : X ++ (rkN b o' rs VV ++ Fo.mks (o' + b.size + 2) rs r) = R := by
          rw [← hx5.out]
          by_cases h0 : b.wr = 0
          · rw [Fo.mks_rep0 _ _ _ _ _ _ h0, hVV, if_pos h0, rkN_zero, List.nil_append]
          · rw [Fo.mks_rep _ _ _ _ _ _ h0, hVV, if_neg h0, hV]; rfl
        have hRl : X.length + (rkN b o' rs VV).length ≤ R.length := by rw [← hxw]; simp <;> omega
        have hBL := fun w' h1 h2 => Block9_of (a := a) (am := am) (c := c) (cm := cm) o' op fin b r w' h1 h2 hl hgs.out (within9_all hl (b.size + 1) b (by omega))
        rw [← hV] at hBL
        have HBL := hide hBL
        have HCAP0 : Hid (b.wr = 0 → capW (b.wr * V) = 0) := fun h0 => by rw [h0, Nat.zero_mul]; rfl
        have HCAP1 : Hid (b.wr ≠ 0 → 0 < V → 0 < capW (b.wr * V)) := fun h0 h1 => by
          have := Nat.mul_pos (show 0 < b.wr by omega) h1
          unfold capW; omega
        obtain ⟨D', rfl⟩ : ∃ D', D = D' + 1 := ⟨D - 1, by omega⟩
        have HIH : Hid (∀ (ra2 : Option Addr) (rc2 : Nat) (rs2 : List Int) (w' : World) (n1 : Nat), n1 = rs2.length → n1 = rn + 1 → b.wr ≤ 65536 → At w' a l → At w' am m → At w' ra2 rs2 → (∀ q, ra2.map (·.block) = some q → q < w'.heap.size) → n1 ≤ rc2 →
            Calls Try.prog 115 #[.slice a l.length c, .slice am m.length cm, .int .i64 ((o' : Int) + 1), .int .i64 ((o' + b.size + 1 : Nat) : Int), .slice ra2 n1 rc2] w' fun e w2 => ∃ a' c' n hs, e = .returned (.slice a' n c') ∧ n = (Fo.mks (o' + 1) rs2 b).length ∧ OwnK w2 w'.heap.size 117 ra2 a' c' hs (Fo.mks (o' + 1) rs2 b) ∧ Below w'.heap.size w' w2) :=
          hide fun ra2 rc2 rs2 w' n1 hn1 hn2 hbw h1 h2 h3 h4 h5 => IH.out b (by omega) (o' + 1) D' ((o' : Int) + 1) ((o' + b.size + 1 : Nat) : Int) ra2 n1 rc2 rs2 w' (by omega) (by omega) h1 h2 hsb (by omega) hn1 (by omega) hbw h3 h4 h5
        have HMB : Hid (∀ rs2, b.wr ≤ 65536 → (Fo.mks (o' + 1) rs2 b).length ≤ 1114112) := hide fun rs2 hbw => mks_bd b (o' + 1) rs2 (D := D') (by omega) (by omega) hbw
        obtain ⟨b1, off1, rfl, x0, x1, x2, x3, x4⟩ := getOp_eq h hb e1
        obtain ⟨b2, off2, rfl, y0⟩ := getI_eq hm hb e3
        obtain ⟨E, hE⟩ : ∃ E : Nat, E = o' + b.size + 1 := ⟨_, rfl⟩
        rw [← hE] at y0 HIH e3
        have hk7 : (op.kind == 7) = true := by simp [k7]
        have hn7 : (op.kind != 7) = false := by simp [k7]
        have HXW := hide hxw
        have HGZ := hide hgz'
        have HGN := hide hgn'
        have HST := hide hsr'
        have HE := hide hE
        have HVV := hide hVV
        have HVO := hide hV
        have HE1 := hide e1
        have HE3 := hide e3
        have HGD := hide (show r.dp ≤ D' + 1 by omega)
        have HGW := hide (show r.wr ≤ 65536 by omega)
        have HRL := hide hRl
        have HWB := hide (show ∀ k, k < VV → b.wr ≤ 65536 ∧ b.wr ≠ 0 from fun k hk => by
          have h0 : b.wr ≠ 0 := fun h0 => by rw [hVV, if_pos h0] at hk; omega
          have := Nat.le_mul_of_pos_right b.wr (show 0 < V by omega)
          exact ⟨by omega, h0⟩)
        have hEZ : E < Z := by omega
        have hub := op.v.toNat_lt
        rw [← hV] at hub
        have hoE : E ≤ 1000000 := by omega
        clear e1 hgz' hgn' hsr' e3 e4 e5 e6 k7 hE hsb hxw hV hVV hgd' hgw' hRl hBL
        go_wp2_with fail
        go_loopw [11, 13] (fun ov kv wr2 => ∃ (k n2 : Nat) (ao2 : Option Addr) (co2 : Nat) (hs2 : List HdM), kv = .int .u64 k ∧ k ≤ VV ∧ ov = .slice ao2 n2 co2 ∧ Hid (n2 = (X ++ rkN b o' rs k).length) ∧ n2 ≤ 1114112 ∧
          OwnK wr2 w.heap.size 117 ra ao2 co2 hs2 (X ++ rkN b o' rs k) ∧ Below w.heap.size w wr2) (fun _ kv _ => VV - (intOf kv).toNat)
        case atStart => exact ⟨0, n, ao, co, hs, rfl, by omega, rfl, by show _ = _; rw [hn.out, rkN_zero, List.append_nil], by omega, by rw [rkN_zero, List.append_nil]; exact hoo, hb⟩
        case round =>
          obtain ⟨k, n2, ao2, co2, hs2, rfl, hk, rfl, hn2, hn25, hoo2, hbr2⟩ := hrel
          have hzr2 := hbr2.size
          obtain ⟨b1', off1', ha', x0, x1, x2, x3, x4⟩ := getOp_eq h hbr2 HE1.out
          obtain ⟨rfl, rfl⟩ : b1 = b1' ∧ off1 = off1' := by injection ha' with ha'; injection ha' with h1 h2; exact ⟨h1, h2⟩
          obtain ⟨b2', off2', hm', y0⟩ := getI_eq hm hbr2 HE3.out
          obtain ⟨rfl, rfl⟩ : b2 = b2' ∧ off2 = off2' := by injection hm' with hm'; injection hm' with h1 h2; exact ⟨h1, h2⟩
          rw [← HVO.out] at x4
          clear ha' hm'
          by_cases hlt : k < VV
          · obtain ⟨hbw, hb0⟩ := HWB.out k hlt
            have hkV : k < V := by omega
            have hcap := HCAP1.out hb0 (by omega)
            obtain ⟨C, hC⟩ : ∃ C, capW (b.wr * V) = C := ⟨_, rfl⟩
            rw [hC] at hcap
            have HC := hide hC
            have hk65 : (k : Int) ≤ 65536 := by omega
            have HMBB := HMB.out (rs ++ [(k : Int)]) hbw
            obtain ⟨nb, hnb⟩ : ∃ nb, (Fo.mks (o' + 1) (rs ++ [(k : Int)]) b).length = nb := ⟨_, rfl⟩
            rw [hnb] at HMBB
            have hRK : n2 + 1 + nb + 1 = (X ++ rkN b o' rs (k + 1)).length := by
              rw [rkN_succ, ← List.append_assoc, List.length_append, ← hn2.out, mkR, List.length_cons, List.length_append, hnb]; simp <;> omega
            have hRK2 : n2 + 1 + nb + 1 ≤ 1114112 := by
              have h1 := rkN_le b o' rs (show k + 1 ≤ VV by omega)
              have h2 := HRL.out
              rw [hRK, List.length_append]
              omega
            have HRK := hide hRK
            have HNB := hide hnb
            have hwrap : IntKind.i64.wrap (k : Int) = (k : Int) := IntWalk.i64_in _ (by omega)
            have HRN1 := hide (show rn + 1 = (rs ++ [(k : Int)]).length by rw [List.length_append, ← HRN.out]; rfl)
            have HL2 := hide (hn2.out.trans hoo2.len.symm)
            have hr2 := hr.belowN hbr2
            clear hC hnb hRK
            go_wp2_with (first
              | (go_at_call 135; go_must ((with_reducible refine (HBL.out _ (h.belowN hbr2) (hm.belowN hbr2)).mono ?_); rw [HC.out]; rintro e w0 ⟨rfl, hb0'⟩; have hB0 := hbr2.trans (hb0'.mono hzr2); have hz0 := hB0.size; have hoo0 := hoo2.belowN hb0'; obtain ⟨_, _, ha1, x0', x1', x2', x3', x4'⟩ := getOp_eq h hB0 HE1.out; obtain ⟨rfl, rfl⟩ := (by injection ha1 with ha1; injection ha1 with h1 h2; exact ⟨h1, h2⟩ : b1 = _ ∧ off1 = _); rw [← HVO.out] at x4'; clear ha1; obtain ⟨_, _, hm1, y0'⟩ := getI_eq hm hB0 HE3.out; obtain ⟨rfl, rfl⟩ := (by injection hm1 with hm1; injection hm1 with h1 h2; exact ⟨h1, h2⟩ : b2 = _ ∧ off2 = _); clear hm1))
              | (go_at_call 71; go_must ((with_reducible refine (With20_calls ra rn rc rs HRN.out (k : Int) w0 (hr.belowN hB0) (by omega)).mono ?_); rintro e w1 ⟨aw, cw, rfl, hown1, hb1⟩; have hB1 := hB0.trans (hb1.mono hz0); have hz1 := hB1.size; have hoo1 := hoo0.belowN hb1; have hne1 : ∀ q, aw.map (·.block) = some q → ao2.map (·.block) ≠ some q := (fun q e1 e2 => by have h1 := (hown1.blk q e1).1; have h2 := (hoo0.out.blk q e2).2; omega); have HNE1 := hide hne1; obtain ⟨_, _, hm1, y1⟩ := getI_eq hm hB1 HE3.out; obtain ⟨rfl, rfl⟩ := (by injection hm1 with hm1; injection hm1 with h1 h2; exact ⟨h1, h2⟩ : b2 = _ ∧ off2 = _); clear hm1 hne1))
              | (go_at_call 115; go_must ((with_reducible refine (HIH.out aw cw (rs ++ [(k : Int)]) w4 (rn + 1) HRN1.out rfl hbw (h.belowN hB4) (hm.belowN hB4) haw4.at_ (fun q e => (haw4.blk q e).2) (by have := haw4.cap.1; have := HRN1.out; omega)).mono ?_); rintro e w5 ⟨a5, c5, n5, hs5, rfl, hn5', hoo5, hb5⟩; have hB5 := hB4.trans (hb5.mono hz4); have hz5 := hB5.size; have hoo45 := hoo4.belowN hb5; have haw5 := haw4.belowN hb5; have hn5e : n5 = nb := hn5'.trans HNB.out; subst hn5e; have HL5 := hide (hn5'.trans hoo5.len.symm); obtain ⟨_, _, hm1, y5⟩ := getI_eq hm hB5 HE3.out; obtain ⟨rfl, rfl⟩ := (by injection hm1 with hm1; injection hm1 with h1 h2; exact ⟨h1, h2⟩ : b2 = _ ∧ off2 = _); clear hm1 hn5'))
              | (at_builtin; first
                  | (have hgd := hoo6; go_must (refine wpList_push tyM hoo6.out (⟨E, aw, rn + 1, cw⟩ : HdM) rfl rfl rfl rfl rfl rfl HL6.out hz6 (by omega) ?_; intro a7 c7 w7 hown7 hg7 hm7; have hoo7 := hoo6.push hown7 hg7 hm7 (x := (E, rs ++ [(k : Int)])) ⟨rfl, HRN1.out, haw6.at_⟩ (fun q e => ⟨.inr (haw6.blk q e).1, (haw6.blk q e).2, HNE6.out q e⟩) (by have := haw6.cap.1; have := HRN1.out; show rn + 1 ≤ cw; omega); have hB7 := below_push hB6 hoo6.out hg7 hz6))
                  | (have hgd := hoo5; go_must (refine wpList_pushAll tyM hoo45.out hoo5.out.at_ rfl rfl rfl rfl HL4.out HL5.out hz5 (by omega) (by omega) ?_; intro a6 c6 w6 hown6 hg6 hm6; have hoo6 := hoo45.app hoo5 hown6 hg6 hm6 hz4 (fun q e => (hoo4.out.blk q e).2) (fun q e => ⟨.inr (haw4.blk q e).1, HNE4.out q e⟩); have hB6 := below_push hB5 hoo45.out hg6 hz5; have hz6 := hB6.size; have haw6 := haw5.grown hg6 (by cases hq : aw.map (·.block) with | none => exact .inl rfl | some q => exact .inr (fun e => HNE4.out q hq e.symm)); have HNE6 := hide (show ∀ q, aw.map (·.block) = some q → a6.map (·.block) ≠ some q from fun q e1 e2 => by rcases hm6 with e | ⟨g', e, hg'⟩ <;> first | (rw [e] at e2; exact HNE4.out q e1 e2) | (rw [e] at e2; injection e2 with e2; have := (haw5.blk q e1).2; omega)); have HL6 := hide (show n2 + 1 + n5 = (hs2 ++ [(⟨o', aw, rn + 1, cw⟩ : HdM)] ++ hs5).length by rw [List.length_append, ← HL4.out, ← HL5.out]); obtain ⟨_, _, hm1, y6⟩ := getI_eq hm hB6 HE3.out; obtain ⟨rfl, rfl⟩ := (by injection hm1 with hm1; injection hm1 with h1 h2; exact ⟨h1, h2⟩ : b2 = _ ∧ off2 = _); clear hm1))
                  | go_must (refine wpList_push tyM hoo1.out (⟨o', aw, rn + 1, cw⟩ : HdM) rfl rfl rfl rfl rfl rfl HL2.out hz1 (by omega) ?_; intro a4 c4 w4 hown4 hg4 hm4; have hoo4 := hoo1.push hown4 hg4 hm4 (x := (o', rs ++ [(k : Int)])) ⟨rfl, HRN1.out, hown1.at_⟩ (fun q e => ⟨.inr (by have := (hown1.blk q e).1; omega), (hown1.blk q e).2, HNE1.out q e⟩) (by have := hown1.cap.1; have := HRN1.out; show rn + 1 ≤ cw; omega); have hB4 := below_push hB1 hoo1.out hg4 hz1; have hz4 := hB4.size; have haw4 := (hown1.mono hz0).grown hg4 (by cases hq : aw.map (·.block) with | none => exact .inl rfl | some q => exact .inr (fun e => HNE1.out q hq e.symm)); have HNE4 := hide (show ∀ q, aw.map (·.block) = some q → a4.map (·.block) ≠ some q from fun q e1 e2 => by rcases hm4 with e | ⟨g', e, hg'⟩ <;> first | (rw [e] at e2; exact HNE1.out q e1 e2) | (rw [e] at e2; injection e2 with e2; have := (hown1.blk q e1).2; omega)); have HL4 := hide (show n2 + 1 = (hs2 ++ [(⟨o', aw, rn + 1, cw⟩ : HdM)]).length by rw [List.length_append, ← HL2.out]; rfl); obtain ⟨_, _, hm1, y4⟩ := getI_eq hm hB4 HE3.out; obtain ⟨rfl, rfl⟩ := (by injection hm1 with hm1; injection hm1 with h1 h2; exact ⟨h1, h2⟩ : b2 = _ ∧ off2 = _); clear hm1)))
            have hfin : X ++ rkN b o' rs k ++ [(o', rs ++ [(k : Int)])] ++ Fo.mks (o' + 1) (rs ++ [(k : Int)]) b ++ [(E, rs ++ [(k : Int)])] = X ++ rkN b o' rs (k + 1) := by
              rw [rkN_succ, mkR, HE.out]; simp
            rw [hfin] at hoo7
            go_roundw
            case rel => exact ⟨k + 1, n2 + 1 + n5 + 1, a7, c7, _, by go_num, by omega, rfl, HRK.out, hRK2, hoo7, hB7⟩
            case measure => simp [intOf] <;> omega
          · have hkv : k = VV := by omega
            subst hkv
            have hxr : X ++ rkN b o' rs k ++ Fo.mks (o' + b.size + 2) rs r = R := by rw [List.append_assoc]; exact HXW.out
            have HXR := hide hxr
            by_cases hV0 : k < V
            · have hb0 : b.wr = 0 := Classical.byContradiction fun h0 => by have := HVV.out; rw [if_neg h0] at this; omega
              have hcap := HCAP0.out hb0
              have HC := hide hcap
              clear hcap hxr hlt
              go_wp2_with (go_at_call 135; go_must ((with_reducible refine (HBL.out _ (h.belowN hbr2) (hm.belowN hbr2)).mono ?_); rw [HC.out]; rintro e w0 ⟨rfl, hb0'⟩; have hB0 := hbr2.trans (hb0'.mono hzr2); have hz0 := hB0.size; have hoo0 := hoo2.belowN hb0'; obtain ⟨_, _, hm1, y0'⟩ := getI_eq hm hB0 HE3.out; obtain ⟨rfl, rfl⟩ := (by injection hm1 with hm1; injection hm1 with h1 h2; exact ⟨h1, h2⟩ : b2 = _ ∧ off2 = _); clear hm1))
              go_roundw
              case rel =>
                exact ⟨r, E + 1, n2, ao2, co2, hs2, _, by go_num, rfl, hn2, hn25, by have := HGZ.out; have := HE.out; show E + 1 + r.size = Z; omega, by omega, by have := HGN.out; show r.size < N + 1; omega, by have := HE.out; show Stands l m (E + 1) r; rw [this]; exact HST.out, HGD.out, HGW.out, by rw [show E + 1 = o' + b.size + 2 by have := HE.out; omega]; exact HXR.out, hoo0, hB0⟩
              case measure => have := HE.out; simp [intOf]; omega
            · have hV1 : V ≤ k := by omega
              clear hxr hlt hV0
              go_wp2
              go_roundw
              case rel =>
                exact ⟨r, E + 1, n2, ao2, co2, hs2, _, by go_num, rfl, hn2, hn25, by have := HGZ.out; have := HE.out; show E + 1 + r.size = Z; omega, by omega, by have := HGN.out; show r.size < N + 1; omega, by have := HE.out; show Stands l m (E + 1) r; rw [this]; exact HST.out, HGD.out, HGW.out, by rw [show E + 1 = o' + b.size + 2 by have := HE.out; omega]; exact HXR.out, hoo2, hbr2⟩
              case measure => have := HE.out; simp [intOf]; omega
end
set_option maxHeartbeats 800000 in
theorem Marks20_calls (regs : Int) (a : Option Addr) (c : Nat) (f : Fo) (g : Good regs f) (w : World) (h : At w a f.flat) :
    Calls Try.prog 67 #[.agg #[.int .i64 regs, .slice a f.flat.length c]] w fun e w' => ∃ a' c' n hs, e = .returned (.slice a' n c') ∧ n = (Fo.mks 0 [] f).length ∧ OwnK w' w.heap.size 117 none a' c' hs (Fo.mks 0 [] f) ∧ Below w.heap.size w w' := by
  have hl : f.flat.length ≤ 4096 := g.len
  have hb0 := below_new12 w (.cells #[.int .i64 regs, .slice a f.flat.length c] 24)
  have hX := Blk.new w 24 #[.int .i64 regs, .slice a f.flat.length c]
  have h1 := h.belowN hb0
  have HM := hide (fun w' (g1 : At w' a f.flat) => Match8W a c f.flat w' g1 (by omega) (well_of_flat f g.ok))
  have HMK := hide (fun am cm w' (g1 : At w' a f.flat) (g2 : At w' am (matchL f.flat)) => marks20_all (a := a) (am := am) (c := c) (cm := cm) (l := f.flat) (m := matchL f.flat) (by omega) (f.size + 1) f (by omega) 0 8 0 (f.flat.length : Int) none 0 0 [] w' rfl (by simp [Fo.size]) g1 g2 (Stands.whole g.ok) g.deep rfl (by omega) g.few (At.nil _ _) (fun q e => by cases e) (Nat.le_refl _))
  rw [matchL_length] at HMK
  clear g
  go_enter Try.func67, Try.ntmps67
  go_wp2_with (first
    | (go_at_call 72; go_must ((with_reducible refine (HM.out _ h1).mono ?_); rintro e w1 ⟨am, cm, rfl, hom, hb1⟩; have hB1 := hb0.trans (hb1.mono hb0.size); obtain ⟨q0, q1, q2, q3⟩ := (hX.belowN hb1).c2))
    | (go_at_call 115; go_must ((with_reducible refine (HMK.out _ _ _ (h.belowN hB1) hom.at_).mono ?_); rintro e w2 ⟨a2, c2, n2, hs2, rfl, hn2, hK2, hb2⟩; have HN2 := hide hn2; clear hn2)))
  go_ret
  exact ⟨a2, c2, n2, hs2, rfl, HN2.out, hK2.mono hB1.size, hB1.trans (hb2.mono hB1.size)⟩
end Go.Proofs.Ythncfoompoheoaa
