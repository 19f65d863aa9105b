/- Chapter 17: the document's Open and Tidy. -/
import Derived.Test.YthncfoompoheoaaW17d
import Derived.Test.YthncfoompoheoaaQj
namespace Go.Proofs.Ythncfoompoheoaa
set_option linter.unusedVariables false
set_option linter.unusedSimpArgs false
open Go.RowKit
section
variable {a am az : Option Addr} {c cm cz n : Nat} {F0 : Fo}
set_option maxRecDepth 100000 in
set_option maxHeartbeats 6400000 in
theorem open17_all (hf0 : F0.ok) (hn : n = F0.flat.length) (hl : n ≤ 4096) (hfin : ∀ (i : Nat) (x : OpD), F0.flat[i]? = some x → x.kind = 0 → x = (⟨0, 0, 0, 0, 0⟩ : OpD)) : ∀ (N : Nat) (f : Fo), f.size < N → ∀ (o : Nat) (F T : Int) (w : World), F = (o : Int) → T = ((o + f.size : Nat) : Int) → At w a F0.flat → At w am (matchL F0.flat) → At w az F0.sizes → Stands F0.flat (matchL F0.flat) o f →
    Calls Try.prog 96 #[.slice a n c, .slice am n cm, .slice az n cz, .int .i64 F, .int .i64 T] w fun e w' => ∃ a' c' q, e = .returned (.slice a' q c') ∧ q = f.opn.flat.length ∧ Own w' w.heap.size 99 a' c' f.opn.flat ∧ Below w.heap.size w w' := by
  intro N
  induction N with
  | zero => intro f hf; omega
  | succ N ih =>
    intro f hf o F T w hF hT h hm hz hs
    obtain ⟨hl1, hl2⟩ := hs.lt
    have IH := hide ih
    have HFIN := hide hfin
    have HF0 := hide hf0
    obtain ⟨Z, hZ⟩ : ∃ Z, Z = o + f.size := ⟨_, rfl⟩
    have HZ := hide hZ
    have HS := hide hs
    have hml : (matchL F0.flat).length = n := by rw [matchL_flat F0 hf0, mtT_length, hn]; rfl
    rw [← hZ] at hl1 hl2 hT
    rw [← hn] at hl1
    have hok : f.ok := hs.ok
    have hRl : f.opn.flat.length ≤ 4096 := by
      have := (f.opn_props hok).2.1
      have e1 : f.opn.flat.length = f.opn.size := rfl
      omega
    obtain ⟨R, hR⟩ : ∃ R, R = f.opn.flat := ⟨_, rfl⟩
    have HR := hide hR
    rw [← hR] at hRl ⊢
    subst hF hT
    have hfz : f.size < N + 1 := hf
    have HN := hide hn
    clear ih hs hR hZ hn hfin hf0 hml hok
    go_enter Try.func96, Try.ntmps96
    go_wp2
    go_loopw [11, 12] (fun ov iv wr => ∃ (g : Fo) (o' q : Nat) (ao : Option Addr) (co : Nat) (X : List OpD), iv = .int .i64 o' ∧ ov = .slice ao q co ∧ Hid (q = X.length) ∧ q ≤ 4096 ∧ Hid (o' + g.size = Z) ∧ o' ≤ Z ∧ Hid (g.size < N + 1) ∧ Hid (Stands F0.flat (matchL F0.flat) o' g) ∧ Hid (X ++ g.opn.flat = R) ∧
      Own wr w.heap.size 99 ao co X ∧ Below w.heap.size w wr) (fun _ iv _ => Z - (intOf iv).toNat)
    case atStart => exact ⟨f, o, 0, _, 0, [], rfl, rfl, rfl, by omega, HZ.out.symm, by have := HZ.out; omega, hfz, HS.out, by have := HR.out; simp [Hid, this], Own.new w (Nat.le_refl _) _ OpD, Below.alloc (Below.refl _ _) (Nat.le_refl _) _⟩
    case round =>
      obtain ⟨g, o', q, ao, co, X, rfl, rfl, hq, hq5, hgz, hoz, hgn, hgs, hx5, hoo, hb⟩ := hrel
      have hzr := hb.size
      cases g with
      | nil =>
        have ez : o' = Z := hgz.out
        have ex : X = R := by have := hx5.out; simpa [Fo.opn, Fo.flat] using this
        subst ez ex
        go_wp2
        go_ret
        exact ⟨ao, co, q, rfl, hq.out, hoo, hb⟩
      | leaf op r =>
        obtain ⟨e1, k1, k2, e2, hsr'⟩ := hgs.out.leaf
        have hgz' := hgz.out
        have hgn' := hgn.out
        have hxw := hx5.out
        rw [Fo.size_leaf] at hgz' hgn'
        simp only [Fo.opn, Fo.flat] at hxw
        have hoz' : o' < Z := by omega
        have hol : o' < n := by omega
        have hnR : q < R.length := by rw [hq.out, ← hxw]; simp
        obtain ⟨b1, off1, rfl, x0, x1, x2, x3, x4⟩ := getOp_eq h hb e1
        have hk7 : (op.kind == 7) = false := by simp; omega
        have hn7 : (op.kind != 7) = true := by simp; omega
        have HXW := hide hxw
        have HGZ := hide hgz'
        have HGN := hide hgn'
        have HST := hide hsr'
        clear e1 hgz' hgn' hsr' e2 k1 k2 hxw
        go_wp2_with (at_builtin; refine wpList_push tyO hoo op rfl rfl rfl rfl rfl rfl hq.out hzr (by omega) ?_; intro a4 c4 w4 hown4 hg4 _)
        go_roundw
        case rel =>
          exact ⟨r, o' + 1, q + 1, a4, c4, X ++ [op], by go_num, rfl, by show q + 1 = _; rw [hq.out]; simp, by omega, by have := HGZ.out; show o' + 1 + r.size = Z; omega, by omega, by have := HGN.out; show r.size < N + 1; omega, HST.out, by have := HXW.out; show X ++ [op] ++ r.opn.flat = R; rw [← this]; simp, hown4, below_push hb hoo hg4 hzr⟩
        case measure => simp [intOf]; omega
      | rep op b fin r =>
        obtain ⟨e1, k7, e3, e4, e5, e6, hsb, hsr'⟩ := hgs.out.rep
        have es := sizes_at HF0.out hgs.out
        have hgz' := hgz.out
        have hgn' := hgn.out
        have hxw := hx5.out
        have hfz0 := HFIN.out _ _ e4 e5
        rw [Fo.size_rep] at hgz' hgn'
        simp only [Fo.opn] at hxw
        have hoz' : o' < Z := by omega
        have hol : o' < n := by omega
        obtain ⟨B, hB⟩ : ∃ B, B = b.opn.flat := ⟨_, rfl⟩
        have HB := hide (fun w' h1 h2 h3 => IH.out b (by omega) (o' + 1) ((o' : Int) + 1) ((o' + b.size + 1 : Nat) : Int) w' (by omega) (by omega) h1 h2 h3 hsb)
        rw [← hB] at HB
        obtain ⟨b1, off1, rfl, x0, x1, x2, x3, x4⟩ := getOp_eq h hb e1
        obtain ⟨b2, off2, rfl, y0⟩ := getI_eq hm hb e3
        obtain ⟨b3, off3, rfl, z0⟩ := getI_eq hz hb es
        have hk7 : (op.kind == 7) = true := by simp; omega
        have hn7 : (op.kind != 7) = false := by simp; omega
        obtain ⟨E, hE⟩ : ∃ E : Nat, E = o' + b.size + 1 := ⟨_, rfl⟩
        rw [← hE] at y0 HB
        have hoE : o' < E := by omega
        have hEZ : E < Z := by omega
        have HE := hide hE
        have HE3 := hide (show (matchL F0.flat)[o']? = some (E : Int) by rw [hE]; exact e3)
        have HGZ := hide hgz'
        have HGN := hide hgn'
        have HST := hide hsr'
        have HRS := hide (show E + 1 + r.size = Z by omega)
        have HRS2 := hide (show r.size < N + 1 by omega)
        have HST2 := hide (show Stands F0.flat (matchL F0.flat) (E + 1) r by rw [hE]; exact hsr')
        by_cases hq0 : b.wr * op.v.toNat = 0
        · rw [hq0] at z0
          rw [if_pos hq0] at hxw
          have HXW := hide hxw
          clear e1 k7 e3 e4 e5 e6 hsb hsr' es hgz' hgn' hxw hfz0 hB hE hq0
          go_wp2
          go_roundw
          case rel => exact ⟨r, E + 1, q, ao, co, X, by go_num, rfl, hq.out, by omega, HRS.out, by omega, HRS2.out, HST2.out, HXW.out, hoo, hb⟩
          case measure => simp [intOf]; omega
        obtain ⟨q0, hq0'⟩ : ∃ q0 : Nat, q0 = b.wr * op.v.toNat := ⟨_, rfl⟩
        rw [← hq0'] at z0
        have hqp : (0 : Int) < (q0 : Int) := by omega
        have hqp2 : decide ((q0 : Int) > 0) = true := decide_eq_true hqp
        have hqp3 : 0 < q0 := by omega
        rw [if_neg hq0] at hxw
        by_cases hv : op.v.toNat = 1
        · rw [if_pos hv, Fo.flat_app, ← hB] at hxw
          have v1 : ((op.v.toNat : Int) == 1) = true := by rw [hv]; rfl
          have hBl : q + B.length ≤ R.length := by rw [hq.out, ← hxw]; simp only [List.length_append]; omega
          have HXW := hide hxw
          clear e1 k7 e3 e4 e5 e6 hsb hsr' es hgz' hgn' hxw hfz0 hB hE hq0 hq0' hv
          go_wp2_with (first
            | (go_at_call 96; go_must ((with_reducible refine (HB.out _ (h.belowN hb) (hm.belowN hb) (hz.belowN hb)).mono ?_); rintro e w5 ⟨a5, c5, q5, rfl, hq5', hown5, hb5⟩; have HQ5 := hide hq5'; have hB5 := hb.trans (hb5.mono hzr); have hoo5 := hoo.belowN hb5; have hat5 := hown5.at_; have hq5b : q + q5 ≤ R.length := (by omega); clear hq5'))
            | (at_builtin; refine wpList_pushAll tyO hoo5 hat5 rfl rfl rfl rfl hq.out HQ5.out hB5.size (by omega) (by omega) ?_; intro a4 c4 w4 hown4 hg4 _; have hB4 := below_push hB5 hoo5 hg4 hB5.size; obtain ⟨_, _, ha9, m9⟩ := getI_eq hm hB4 HE3.out; cases ha9))
          go_roundw
          case rel => exact ⟨r, E + 1, q + q5, a4, c4, X ++ B, by go_num, by go_num, by show q + q5 = _; rw [List.length_append, ← hq.out, ← HQ5.out], by omega, HRS.out, by omega, HRS2.out, HST2.out, by have := HXW.out; show X ++ B ++ r.opn.flat = R; rw [← this]; simp, hown4, below_push hB5 hoo5 hg4 hB5.size⟩
          case measure => simp [intOf]; omega
        · rw [if_neg hv] at hxw
          simp only [Fo.flat] at hxw
          rw [← hB, hfz0] at hxw
          have v1 : ((op.v.toNat : Int) == 1) = false := by simp; omega
          have hBl : q + B.length + 2 ≤ R.length := by rw [hq.out, ← hxw]; simp only [List.length_append, List.length_cons]; omega
          have HXW := hide hxw
          have HQ1 := hide (show q + 1 = (X ++ [op]).length by rw [hq.out]; simp)
          clear e1 k7 e3 e4 e5 e6 hsb hsr' es hgz' hgn' hxw hfz0 hB hE hq0 hq0' hv
          go_wp2_with (first
            | (go_at_call 96; go_must ((with_reducible refine (HB.out _ (h.belowN hB4) (hm.belowN hB4) (hz.belowN hB4)).mono ?_); rintro e w5 ⟨a5, c5, q5, rfl, hq5', hown5, hb5⟩; have HQ5 := hide hq5'; have hB5 := hB4.trans (hb5.mono hB4.size); have hoo5 := hown4.belowN hb5; have hat5 := hown5.at_; have hq5b : q + q5 + 2 ≤ R.length := (by omega); clear hq5'))
            | (have hgd := hown6; at_builtin; go_must (refine wpList_push tyO hown6 (⟨0, 0, 0, 0, 0⟩ : OpD) rfl rfl rfl rfl rfl rfl HQ6.out hB6.size (by omega) ?_; intro a7 c7 w7 hown7 hg7 _; have hB7 := below_push hB6 hown6 hg7 hB6.size; obtain ⟨_, _, ha8, m8⟩ := getI_eq hm hB7 HE3.out; cases ha8))
            | (have hgd := hown5; at_builtin; go_must (refine wpList_pushAll tyO hoo5 hat5 rfl rfl rfl rfl HQ1.out HQ5.out hB5.size (by omega) (by omega) ?_; intro a6 c6 w6 hown6 hg6 _; have hB6 := below_push hB5 hoo5 hg6 hB5.size; have HQ6 := hide (show q + 1 + q5 = (X ++ [op] ++ B).length by rw [List.length_append, ← HQ1.out, ← HQ5.out])))
            | (at_builtin; refine wpList_push tyO hoo op rfl rfl rfl rfl rfl rfl hq.out hzr (by omega) ?_; intro a4 c4 w4 hown4 hg4 _; have hB4 := below_push hb hoo hg4 hzr; obtain ⟨y1, _⟩ := bcell hB4; obtain ⟨_, _, ha9, m0⟩ := getI_eq hm hB4 HE3.out; cases ha9))
          go_roundw
          case rel => exact ⟨r, E + 1, q + 1 + q5 + 1, a7, c7, X ++ [op] ++ B ++ [⟨0, 0, 0, 0, 0⟩], by go_num, by go_num, by show q + 1 + q5 + 1 = _; rw [List.length_append, ← HQ6.out]; rfl, by omega, HRS.out, by omega, HRS2.out, HST2.out, by have := HXW.out; show X ++ [op] ++ B ++ [⟨0, 0, 0, 0, 0⟩] ++ r.opn.flat = R; rw [← this]; simp, hown7, hB7⟩
          case measure => simp [intOf]; omega
end
theorem right_end {x : OpD} (h : rightB x = true) (h0 : x.kind = 0) : x = ⟨0, 0, 0, 0, 0⟩ := by
  unfold rightB at h
  rw [h0] at h
  have e1 : dOf 0 = false := rfl
  have e2 : aOf 0 = false := rfl
  have e3 : bOf 0 = false := rfl
  have e4 : vOf 0 = false := rfl
  rw [e1, e2, e3, e4] at h
  simp [regB] at h
  obtain ⟨⟨⟨h1, h2⟩, h3⟩, h4⟩ := h
  obtain ⟨k, d, a, b, v⟩ := x
  simp only at h0 h1 h2 h3 h4
  subst h0 h1 h2 h3 h4
  rfl
set_option maxRecDepth 100000 in
set_option maxHeartbeats 6400000 in
theorem ropen_good (regs : Int) (a : Option Addr) (c n : Nat) (f : Fo) (hn : n = f.flat.length) (g : Good regs f) (w : World) (h : At w a f.flat) :
    Calls Try.prog 47 #[.agg #[.int .i64 regs, .slice a n c]] w (ProgOut regs 0 f.opn.flat w) := by
  have hl : f.flat.length ≤ 4096 := g.len
  have hb0 := (below_new12 w (.cells #[.int .i64 regs, .slice a n c] 24)).alloc (by simp) (.cells #[.int .i64 0, .slice none 0 0] 24)
  have hX := (Blk.new w 24 #[.int .i64 regs, .slice a n c]).alloc (.cells #[.int .i64 0, .slice none 0 0] 24)
  have hR := Blk.new (w.alloc (.cells #[.int .i64 regs, .slice a n c] 24)) 24 #[.int .i64 0, .slice none 0 0]
  simp only [World.size_alloc] at hR
  have h1 := h.belowN hb0
  have HP := hide (Prog10_calls regs a c f.flat _ h1 (by omega))
  have HM := hide (fun w' (g1 : At w' a f.flat) => Match8W a c f.flat w' g1 (by omega) (well_of_flat f g.ok))
  have HZ := hide (fun w' (g1 : At w' a f.flat) => Sizes9_calls a c f.flat w' g1 (by omega))
  obtain ⟨z1, z2, z3, z4⟩ := W9_ok g.ok ⟨g.may, g.few⟩
  unfold List9Post at HZ
  rw [z1, z3, f.sizes_length] at HZ
  change Hid (∀ w', At w' a f.flat → Calls Try.prog 95 #[.slice a f.flat.length c] w' fun e w'' => ∃ a' c', e = .returned (.tuple #[.slice a' f.flat.length c', .int .i64 0]) ∧ Own w'' w'.heap.size 3 a' c' f.sizes ∧ Below w'.heap.size w' w'') at HZ
  rw [g.check] at HP
  have hnb : n ≤ 4096 := by omega
  have HO := hide (fun (am az : Option Addr) (cm cz : Nat) (W : World) (k1 : At W a f.flat) (k2 : At W am (matchL f.flat)) (k3 : At W az f.sizes) => open17_all (a := a) (am := am) (az := az) (c := c) (cm := cm) (cz := cz) g.ok hn hnb (fun i x hx hk => right_end (g.right x (List.mem_of_getElem? hx)) hk) (f.size + 1) f (Nat.lt_succ_self _) 0 0 (n : Int) W rfl (by rw [hn, Nat.zero_add]; rfl) k1 k2 k3 (Stands.whole g.ok))
  have HN := hide hn
  rw [← hn] at HP HM HZ
  obtain ⟨L, hL⟩ : ∃ L, f.opn.flat = L := ⟨_, rfl⟩
  rw [hL] at HO ⊢
  clear z1 z2 z3 z4 hn g hL
  go_enter Try.func47, Try.ntmps47
  go_wp2_with (first
    | (go_at_call 63; go_must ((with_reducible refine (HP.out).mono ?_); rintro e w1 ⟨rfl, hb1⟩; have hB1 := hb0.trans (hb1.mono hb0.size); obtain ⟨p0, p1, p2, p3⟩ := (hX.belowN hb1).c2))
    | (go_at_call 72; go_must ((with_reducible refine (HM.out _ (h1.belowN hb1)).mono ?_); rintro e w2 ⟨am, cm, rfl, hom, hb2⟩; have hC2 := hb1.trans (hb2.mono hb1.size); obtain ⟨q0, q1, q2, q3⟩ := (hX.belowN hC2).c2))
    | (go_at_call 95; go_must ((with_reducible refine (HZ.out _ (h1.belowN hC2)).mono ?_); rintro e w3 ⟨az, cz, rfl, hoz, hb3⟩; have hC3 := hC2.trans (hb3.mono hC2.size); have hX3 := hX.belowN hC3; have hR3 := hR.belowN hC3; have hm3 := (hom.belowN hb3).at_; have hz3 := hoz.at_; have hl3 := h1.belowN hC3; obtain ⟨u0, u1, u2, u3⟩ := hX3.c2; have hB3 := hb0.trans (hC3.mono hb0.size))))
  have hz2 := hB3.size
  have hzo := hR3.lt
  have hxo := hX3.lt
  have hd9 : Below w3.heap.size w3 w3.drew := Below.drew (Below.refl _ _)
  obtain ⟨S', hS'⟩ : ∃ S' : World → Prop, S' = fun w' => w'.cell? ⟨w.heap.size, 0, none⟩ = some (.int .i64 regs) ∧ w'.cell? ⟨w.heap.size, 1, none⟩ = some (.slice a n c) := ⟨_, rfl⟩
  have HSE : Hid (∀ w', S' w' → w'.cell? ⟨w.heap.size, 0, none⟩ = some (.int .i64 regs) ∧ w'.cell? ⟨w.heap.size, 1, none⟩ = some (.slice a n c)) := hide fun w' h => by rw [hS'] at h; exact h
  have HSI4 : Hid (∀ w4, Below w3.heap.size w3 w4 → S' w4) := by
    show ∀ w4, _ → _
    intro w4 hb4
    obtain ⟨y0, _⟩ := bcell hb4
    rw [hS']
    exact ⟨(y0 _ _ hxo).trans u0, (y0 _ _ hxo).trans u1⟩
  clear hS'
  refine wp_region_calls 9 11 S' (by kernel_rfl) (by kernel_rfl) (HSI4.out _ hd9) ?_
  simp only [List.take_succ_cons, List.take_zero, List.drop_succ_cons, List.drop_zero, Nat.reduceSub]
  iterate 9
    apply headK_step (by rfl)
    · intro w' hw'
      obtain ⟨s0, s1⟩ := HSE.out w' hw'
      go_simp
      rfl
    intro a' ha'
    simp only [Act.put, List.setIfInBounds_toArray, List.set_cons_succ, List.set_cons_zero] at ha'
    subst ha'
  refine headK_nil ?_
  rw [midK]
  intro K0 hK0
  have HK0 := hide hK0
  clear hK0
  go_simp
  go_at_call 96
  refine (HO.out am az cm cz _ (hl3.belowN hd9) (hm3.belowN hd9) (hz3.belowN hd9)).mono ?_
  rintro e w4 ⟨a4, c4, m4, rfl, hm4, hown4, hb4⟩
  have HM4 := hide hm4
  clear hm4
  have hB4 := hd9.trans (hb4.mono hd9.size)
  refine HK0.out _ _ (HSI4.out w4 hB4) ?_
  clear HK0
  rw [midK]
  intro K1 hK1
  have HK1 := hide hK1
  clear hK1
  go_simp
  refine HK1.out _ _ (HSI4.out w4 hB4) ?_
  clear HK1
  rw [midK]
  have hR4 := hR3.belowN hB4
  obtain ⟨s0, s1, s2, s3⟩ := hR4.c2
  clear HSI4 HSE HO
  go_wp2
  refine NoPanic.normal ?_
  go_wp2
  try simp only [Exit.then, Exit.inBlock]
  try rw [Exit.noGoto_ret]
  have hF6 := (hR4.set_ 0 (.int .i64 regs)).set_ 1 (.slice a4 m4 c4)
  have hC4 := hB3.trans (hB4.mono hz2)
  refine bodyPost_ret (results_row_tmp rfl _ _ (w.heap.size + 1) _ #[.int .i64 regs, .slice a4 m4 c4] (0, 0) _ rfl hF6 Try.underlying24 rfl (by kernel_rfl)) rfl ?_
  exact ⟨a4, c4, m4, rfl, HM4.out, ((hown4.farLt (p := ⟨w.heap.size + 1, 0, none⟩) hzo _).farLt (p := ⟨w.heap.size + 1, 1, none⟩) hzo _).mono (show w.heap.size ≤ w3.drew.heap.size from Nat.le_of_lt (Nat.lt_of_le_of_lt (Nat.le_succ _) hzo)), ((hC4.setCell (p := ⟨w.heap.size + 1, 0, none⟩) (Nat.le_succ _) _).setCell (p := ⟨w.heap.size + 1, 1, none⟩) (Nat.le_succ _) _)⟩
theorem ROpen_calls (regs : Int) (a : Option Addr) (c ln : Nat) (l : List OpD) (hln : ln = l.length) (w : World) (h : At w a l) (hl : ln ≤ 1000000) (E : Int) (L : List OpD) (hE : checkS regs l = E) (hL : openL regs l = L) :
    Calls Try.prog 47 #[.agg #[.int .i64 regs, .slice a ln c]] w (ProgOut (regsIf E regs) E L w) := by
  unfold openL at hL
  rw [hE] at hL
  by_cases hE0 : E = 0
  · subst hE0
    rw [if_pos rfl] at hL
    obtain ⟨f, rfl, g⟩ := good_of_check hE
    rw [fo_flat g.ok] at hL
    subst hL
    have e1 : regsIf 0 regs = regs := by unfold regsIf; rw [if_pos rfl]
    rw [e1]
    exact ropen_good regs a c ln f hln g w h
  · rw [if_neg hE0] at hL
    subst hL
    have hb0 := (below_new12 w (.cells #[.int .i64 regs, .slice a ln c] 24)).alloc (by simp) (.cells #[.int .i64 0, .slice none 0 0] 24)
    have hR := Blk.new (w.alloc (.cells #[.int .i64 regs, .slice a ln c] 24)) 24 #[.int .i64 0, .slice none 0 0]
    simp only [World.size_alloc] at hR
    have h1 := h.belowN hb0
    subst hln
    have HP := hide (Prog10_calls regs a c l _ h1 hl)
    rw [hE] at HP
    have e1 : regsIf E regs = 0 := by unfold regsIf; rw [if_neg hE0]
    have e2 : (E == 0) = false := by simpa using hE0
    have e3 : (E != 0) = true := by simpa using hE0
    rw [e1]
    clear e1 hE0 hE
    go_enter Try.func47, Try.ntmps47
    go_wp2_with (go_at_call 63; go_must ((with_reducible refine (HP.out).mono ?_); rintro e w1 ⟨rfl, hb1⟩; have hB1 := hb0.trans (hb1.mono hb0.size); have hR2 := hR.belowN hb1; obtain ⟨r0, r1, r2, r3⟩ := hR2.c2))
    try simp only [Exit.then, Exit.inBlock]
    try rw [Exit.noGoto_ret]
    have hF6 := (hR2.set_ 0 (.int .i64 0)).set_ 1 (.slice none 0 0)
    refine bodyPost_ret (results_row_tmp rfl _ _ (w.heap.size + 1) _ #[.int .i64 0, .slice none 0 0] (0, 0) _ rfl hF6 Try.underlying24 rfl (by kernel_rfl)) rfl ?_
    exact ⟨none, 0, 0, rfl, rfl, Own.none _ _ _, ((hB1.setCell (p := ⟨w.heap.size + 1, 0, none⟩) (Nat.le_succ _) _).setCell (p := ⟨w.heap.size + 1, 1, none⟩) (Nat.le_succ _) _)⟩
set_option maxRecDepth 100000 in
set_option maxHeartbeats 3200000 in
theorem RTidy_calls (regs : Int) (a : Option Addr) (c ln : Nat) (l : List OpD) (hln : ln = l.length) (oa : Option Addr) (oc n : Nat) (outs : List Int) (hno : n = outs.length) (w : World) (h : At w a l) (hl : ln ≤ 1000000) (ho : At w oa outs) (hol : n ≤ 1000000) (E : Int) (L : List OpD) (hE : liveE regs l outs = E) (hL : tidyL regs l outs = L) :
    Calls Try.prog 49 #[.agg #[.int .i64 regs, .slice a ln c], .slice oa n oc] w (ProgOut (regsIf E regs) E L w) := by
  have hb0 := (below_new12 w (.cells #[.int .i64 regs, .slice a ln c] 24)).alloc (by simp) (.cells #[.int .i64 0, .slice none 0 0] 24)
  have hR := Blk.new (w.alloc (.cells #[.int .i64 regs, .slice a ln c] 24)) 24 #[.int .i64 0, .slice none 0 0]
  simp only [World.size_alloc] at hR
  have h1 := h.belowN hb0
  have ho1 := ho.belowN hb0
  obtain ⟨Q, hQ⟩ : ∃ Q, siftL regs l outs = Q := ⟨_, rfl⟩
  have hQl := siftL_length (regs := regs) (l := l) (outs := outs)
  rw [hQ] at hQl
  have HS := hide (RSift_calls regs a c ln l hln oa oc n outs hno _ h1 hl ho1 hol E Q hE hQ)
  unfold tidyL at hL
  rw [hE, hQ] at hL
  by_cases hE0 : E = 0
  · subst hE0
    rw [if_pos rfl] at hL
    have hck := siftL_check hE
    rw [hQ] at hck
    have e1 : regsIf 0 regs = regs := by unfold regsIf; rw [if_pos rfl]
    rw [e1] at HS ⊢
    have HO := hide (fun (a2 : Option Addr) (c2 n2 : Nat) (hn2 : n2 = Q.length) (W : World) (k1 : At W a2 Q) (k2 : n2 ≤ 1000000) => ROpen_calls regs a2 c2 n2 Q hn2 W k1 k2 0 L hck hL)
    rw [e1] at HO
    clear e1 hE hQ hL hck hln hno
    go_enter Try.func49, Try.ntmps49
    go_wp2_with (first
      | (go_at_call 45; go_must ((with_reducible refine (HS.out).mono ?_); rintro e w1 ⟨a1, c1, m1, rfl, hm1, hown1, hb1⟩; have HM1 := hide hm1; have hm1b : m1 ≤ 4096 := (by omega); have hn1 := below_new12 w1 (.cells #[.int .i64 regs, .slice a1 m1 c1] 24); have hC2 := hb1.trans (hn1.mono hb1.size); have hR2 := hR.belowN hC2; have hat2 := (hown1.belowN hn1).at_; clear hm1))
      | (go_at_call 47; go_must ((with_reducible refine (HO.out _ _ _ HM1.out _ hat2 (by omega)).mono ?_); rintro e w4 ⟨a4, c4, m4, rfl, hm4, hown4, hb4⟩; have HM4 := hide hm4; have hC4 := hC2.trans (hb4.mono hC2.size); have hR4 := hR2.belowN hb4; have hz2 := hC2.size; obtain ⟨r0, r1, r2, r3⟩ := hR4.c2; clear hm4)))
    try simp only [Exit.then, Exit.inBlock]
    try rw [Exit.noGoto_ret]
    have hF6 := (hR4.set_ 0 (.int .i64 regs)).set_ 1 (.slice a4 m4 c4)
    have hB4 := hb0.trans (hC4.mono hb0.size)
    have hzo := hR2.lt
    refine bodyPost_ret (results_row_tmp rfl _ _ (w.heap.size + 1) _ #[.int .i64 regs, .slice a4 m4 c4] (0, 0) _ rfl hF6 Try.underlying24 rfl (by kernel_rfl)) rfl ?_
    exact ⟨a4, c4, m4, rfl, HM4.out, ((hown4.farLt (p := ⟨w.heap.size + 1, 0, none⟩) hzo _).farLt (p := ⟨w.heap.size + 1, 1, none⟩) hzo _).mono (Nat.le_of_lt (Nat.lt_of_le_of_lt (Nat.le_succ _) hzo)), ((hB4.setCell (p := ⟨w.heap.size + 1, 0, none⟩) (Nat.le_succ _) _).setCell (p := ⟨w.heap.size + 1, 1, none⟩) (Nat.le_succ _) _)⟩
  · rw [if_neg hE0] at hL
    subst hL
    have e1 : regsIf E regs = 0 := by unfold regsIf; rw [if_neg hE0]
    have e2 : (E == 0) = false := by simpa using hE0
    have e3 : (E != 0) = true := by simpa using hE0
    rw [e1] at HS ⊢
    clear e1 hE0 hE hQ hln hno
    go_enter Try.func49, Try.ntmps49
    go_wp2_with (go_at_call 45; go_must ((with_reducible refine (HS.out).mono ?_); rintro e w1 ⟨a1, c1, m1, rfl, hm1, hown1, hb1⟩; have hn1 := below_new12 w1 (.cells #[.int .i64 0, .slice a1 m1 c1] 24); have hC2 := hb1.trans (hn1.mono hb1.size); have hR2 := hR.belowN hC2; obtain ⟨r0, r1, r2, r3⟩ := hR2.c2; have hB1 := hb0.trans (hC2.mono hb0.size); clear hm1))
    try simp only [Exit.then, Exit.inBlock]
    try rw [Exit.noGoto_ret]
    have hF6 := (hR2.set_ 0 (.int .i64 0)).set_ 1 (.slice none 0 0)
    refine bodyPost_ret (results_row_tmp rfl _ _ (w.heap.size + 1) _ #[.int .i64 0, .slice none 0 0] (0, 0) _ rfl hF6 Try.underlying24 rfl (by kernel_rfl)) rfl ?_
    exact ⟨none, 0, 0, rfl, rfl, Own.none _ _ _, ((hB1.setCell (p := ⟨w.heap.size + 1, 0, none⟩) (Nat.le_succ _) _).setCell (p := ⟨w.heap.size + 1, 1, none⟩) (Nat.le_succ _) _)⟩
end Go.Proofs.Ythncfoompoheoaa
