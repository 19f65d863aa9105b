/- Chapter 16: the places of writes, unrolled. -/
import Derived.Test.YthncfoompoheoaaL16a
import Derived.Test.YthncfoompoheoaaQj
namespace Go.Proofs.Ythncfoompoheoaa
set_option linter.unusedVariables false
set_option linter.unusedSimpArgs false
open Go.RowKit

/-- places as numbers -/
def Fo.plI (o : Nat) (f : Fo) : List Int := (f.pls o).map fun (i : Nat) => (i : Int)
theorem Fo.plI_leaf (o : Nat) (op : OpD) (r : Fo) : (Fo.leaf op r).plI o = (o : Int) :: r.plI (o + 1) := rfl
theorem Fo.plI_rep (o : Nat) (op : OpD) (b : Fo) (fin : OpD) (r : Fo) : (Fo.rep op b fin r).plI o = (List.replicate op.v.toNat (b.plI (o + 1))).flatten ++ r.plI (o + b.size + 2) := by
  unfold Fo.plI
  rw [Fo.pls, List.map_append]
  congr 1
  generalize op.v.toNat = n
  induction n with
  | zero => rfl
  | succ n ih => simp only [List.replicate_succ, List.flatten_cons, List.map_append, ih]
theorem Fo.plI_length (o : Nat) (f : Fo) : (f.plI o).length = f.wr := by unfold Fo.plI; rw [List.length_map, Fo.pls_length]
theorem length_rep' {α : Type} (n : Nat) (l : List α) : ((List.replicate n l).flatten).length = l.length * n := by
  induction n with
  | zero => simp
  | succ n ih => rw [List.replicate_succ, List.flatten_cons, List.length_append, ih, Nat.mul_add]; omega
def Lay16 (bl bm by' : Nat) (a am : Option Addr) (c cm : Nat) (l : List OpD) (m : List Int) (f : Fo) : Prop :=
  ∀ (o : Nat) (F T : Int) (w : World), F = (o : Int) → T = ((o + f.size : Nat) : Int) → At w a l → At w am m → Blk w bl 22 #[.slice a l.length c] → Blk w bm 25 #[.slice am m.length cm] → Blk w by' 226 #[.func (.func 155) #[] #[.pointer (some ⟨bl, 0, none⟩), .pointer (some ⟨by', 0, none⟩), .pointer (some ⟨bm, 0, none⟩)]] →
    Stands l m o f → f.may = true → f.wr ≤ 65536 →
    Calls Try.prog 155 #[.int .i64 F, .int .i64 T, .pointer (some ⟨bl, 0, none⟩), .pointer (some ⟨by', 0, none⟩), .pointer (some ⟨bm, 0, none⟩)] w fun e w' => ∃ a' c', e = .returned (.slice a' f.wr c') ∧ Own w' w.heap.size 3 a' c' (f.plI o) ∧ Below w.heap.size w w'
section
variable {bl bm by' : Nat} {a am : Option Addr} {c cm : Nat} {l : List OpD} {m : List Int}
set_option maxRecDepth 100000 in
set_option maxHeartbeats 3200000 in
theorem lay16_all (hl : l.length ≤ 1000000) : ∀ (N : Nat) (f : Fo), f.size < N → Lay16 bl bm by' a am c cm l m f := by
  intro N
  induction N with
  | zero => intro f hf; omega
  | succ N ih =>
    intro f hf o F T w hF hT h hm hbl hbm hby hs hv hw
    obtain ⟨hl1, hl2⟩ := hs.lt
    have IH := hide ih
    obtain ⟨Z, hZ⟩ : ∃ Z, Z = o + f.size := ⟨_, rfl⟩
    have HZ := hide hZ
    have HS := hide hs
    have HV := hide hv
    rw [← hZ] at hl1 hl2 hT
    obtain ⟨R, hR⟩ : ∃ R, R = f.plI o := ⟨_, rfl⟩
    obtain ⟨G, hG⟩ : ∃ G, G = f.wr := ⟨_, rfl⟩
    have hRG : R.length = G := by rw [hR, hG, Fo.plI_length]
    have HRG := hide hRG
    have HR := hide hR
    have HG := hide hG
    rw [← hR]
    rw [← hG] at hw ⊢
    subst hF hT
    have hfz : f.size < N + 1 := hf
    clear ih hs hv hR hG hZ hRG
    go_enter Try.func155, Try.ntmps155
    go_wp2
    go_loopw [8, 9] (fun ov iv wr => ∃ (g : Fo) (o' n : Nat) (ao : Option Addr) (co : Nat) (X : List Int), iv = .int .i64 o' ∧ ov = .slice ao n co ∧ Hid (n = X.length) ∧ n ≤ 65536 ∧ Hid (o' + g.size = Z) ∧ o' ≤ Z ∧ Hid (g.size < N + 1) ∧ Hid (Stands l m o' g) ∧ Hid (g.may = true) ∧ Hid (n + g.wr = G) ∧ Hid (X ++ g.plI o' = R) ∧
      Own wr w.heap.size 3 ao co X ∧ Below w.heap.size w wr) (fun _ iv _ => Z - (intOf iv).toNat)
    case atStart => exact ⟨f, o, 0, none, 0, [], rfl, rfl, rfl, by omega, HZ.out.symm, by have := HZ.out; omega, hfz, HS.out, HV.out, by have := HG.out; simp [Hid, this], by have := HR.out; simp [Hid, this], Own.none _ _ _, Below.refl _ _⟩
    case round =>
      obtain ⟨g, o', n, ao, co, X, rfl, rfl, hn, hn5, hgz, hoz, hgn, hgs, hgv, hsg, hx5, hoo, hb⟩ := hrel
      have hzr := hb.size
      obtain ⟨l0, l1⟩ := (hbl.belowN hb).c1
      obtain ⟨m0, m1⟩ := (hbm.belowN hb).c1
      obtain ⟨y0, y1⟩ := (hby.belowN hb).c1
      cases g with
      | nil =>
        have ez : o' = Z := hgz.out
        have es : n = G := hsg.out
        have ex : X = R := by have := hx5.out; simpa [Fo.plI, Fo.pls] using this
        subst ez es ex
        go_wp2
        go_ret
        exact ⟨ao, co, rfl, hoo, hb⟩
      | leaf op r =>
        obtain ⟨e1, k1, k2, e2, hsr'⟩ := hgs.out.leaf
        have hgz' := hgz.out
        have hgn' := hgn.out
        have hsw := hsg.out
        have hxw := hx5.out
        have hgv' := hgv.out
        rw [Fo.size_leaf] at hgz' hgn'
        simp only [Fo.wr] at hsw
        simp only [Fo.may] at hgv'
        rw [Fo.plI_leaf] at hxw
        have hoz' : o' < Z := by omega
        have hol : o' < l.length := by omega
        obtain ⟨b1, off1, rfl, x0, x1, x2, x3, x4⟩ := getOp_eq h hb e1
        have hk7 : (op.kind == 7) = false := by simp; omega
        have hn7 : (op.kind != 7) = true := by simp; omega
        have hn6 : n < 65536 := by omega
        have HSW := hide hsw
        have HXW := hide hxw
        have HGZ := hide hgz'
        have HGN := hide hgn'
        have HST := hide hsr'
        have HGV := hide hgv'
        clear e1 hsw hgz' hgn' hsr' e2 k1 k2 hxw hgv'
        go_wp2_with (at_builtin; refine wpList_push tyI hoo (o' : Int) rfl rfl rfl rfl rfl rfl hn.out hzr (by omega) ?_; intro a4 c4 w4 hown4 hg4 _)
        go_roundw
        case rel =>
          exact ⟨r, o' + 1, n + 1, a4, c4, X ++ [(o' : Int)], by go_num, rfl, by show n + 1 = _; rw [hn.out]; simp, by omega, by have := HGZ.out; show o' + 1 + r.size = Z; omega, by omega, by have := HGN.out; show r.size < N + 1; omega, HST.out, HGV.out, by have := HSW.out; show n + 1 + r.wr = G; omega, by have := HXW.out; show X ++ [(o' : Int)] ++ r.plI (o' + 1) = R; rw [← this]; simp, hown4, below_push hb hoo hg4 hzr⟩
        case measure => simp [intOf]; omega
      | rep op b fin r =>
        obtain ⟨e1, k7, e3, e4, e5, e6, hsb, hsr'⟩ := hgs.out.rep
        have hgz' := hgz.out
        have hgn' := hgn.out
        have hsw := hsg.out
        have hxw := hx5.out
        have hgv' := hgv.out
        rw [Fo.size_rep] at hgz' hgn'
        simp only [Fo.wr] at hsw
        simp only [Fo.may, Bool.and_eq_true, decide_eq_true_eq] at hgv'
        obtain ⟨⟨⟨v1, v2⟩, v3⟩, v4⟩ := hgv'
        rw [Fo.plI_rep] at hxw
        have hoz' : o' < Z := by omega
        have hol : o' < l.length := by omega
        have hom : o' < m.length := by omega
        obtain ⟨U, hU⟩ : ∃ U, U = b.wr := ⟨_, rfl⟩
        obtain ⟨V, hV⟩ : ∃ V, V = op.v.toNat := ⟨_, rfl⟩
        rw [← hU, ← hV] at hsw v3
        rw [← hU] at v2
        rw [← hV] at hxw
        have HB := hide (fun w' h1 h2 h3 h4 h5 => IH.out b (by omega) (o' + 1) ((o' : Int) + 1) ((o' + b.size + 1 : Nat) : Int) w' (by omega) (by omega) h1 h2 h3 h4 h5 hsb v1 (by rw [← hU]; exact v2))
        rw [← hU] at HB
        obtain ⟨b1, off1, rfl, x0, x1, x2, x3, x4⟩ := getOp_eq h hb e1
        obtain ⟨b2, off2, rfl, z0⟩ := getI_eq hm hb e3
        obtain ⟨E, hE⟩ : ∃ E : Nat, E = o' + b.size + 1 := ⟨_, rfl⟩
        rw [← hE] at z0 HB e3
        rw [← hV] at x4
        have hzl := World.block_lt_of_cell? _ _ z0
        have hxl := World.block_lt_of_cell? _ _ x0
        have hk7 : (op.kind == 7) = true := by simp [k7]
        have hn7 : (op.kind != 7) = false := by simp [k7]
        have HSW := hide hsw
        have HXW := hide hxw
        have HGZ := hide hgz'
        have HGN := hide hgn'
        have HST := hide hsr'
        have HE := hide hE
        have HU := hide hU
        have HVV := hide hV
        have HE1 := hide e1
        have HE3 := hide e3
        have HV4 := hide v4
        have HV3 := hide v3
        have hEZ : E < Z := by omega
        have hub := op.v.toNat_lt
        rw [← hV] at hub
        have hkeep := fun (w1 : World) (hb1 : Below wr.heap.size wr w1) => hb.trans (hb1.mono hzr)
        have HKP := hide hkeep
        have hPL : (b.plI (o' + 1)).length = U := by rw [Fo.plI_length, hU]
        have HPL := hide hPL
        clear e1 hsw hgz' hgn' hsr' e3 e4 e5 e6 k7 hE hsb hxw hU hV v1 v3 v4 hkeep hPL
        obtain ⟨S', hS'⟩ : ∃ S' : World → Prop, S' = fun w' => w'.cell? ⟨by', 0, none⟩ = some (.func (.func 155) #[] #[.pointer (some ⟨bl, 0, none⟩), .pointer (some ⟨by', 0, none⟩), .pointer (some ⟨bm, 0, none⟩)]) ∧ w'.cell? ⟨bm, 0, none⟩ = some (.slice (some ⟨b2, off2, none⟩) m.length cm) ∧ w'.cell? ⟨b2, off2 + o', none⟩ = some (.int .i64 (E : Int)) := ⟨_, rfl⟩
        have hSe : ∀ w', S' w' → w'.cell? ⟨by', 0, none⟩ = some (.func (.func 155) #[] #[.pointer (some ⟨bl, 0, none⟩), .pointer (some ⟨by', 0, none⟩), .pointer (some ⟨bm, 0, none⟩)]) ∧ w'.cell? ⟨bm, 0, none⟩ = some (.slice (some ⟨b2, off2, none⟩) m.length cm) ∧ w'.cell? ⟨b2, off2 + o', none⟩ = some (.int .i64 (E : Int)) := fun w' h => by rw [hS'] at h; exact h
        have HSE := hide hSe
        have HSI : Hid (S' wr.drew) := by show S' wr.drew; rw [hS']; exact ⟨y0, m0, z0⟩
        have hyl := (hby.belowN hb).lt
        have hml := (hbm.belowN hb).lt
        have HSI4 : Hid (∀ w4, Below wr.drew.heap.size wr.drew w4 → S' w4) := by
          show ∀ w4, _ → _
          intro w4 hb4
          obtain ⟨hc4, hf4⟩ := bcell hb4
          rw [hS']
          exact ⟨(hc4 _ _ hyl).trans y0, (hc4 _ _ hml).trans m0, (hc4 _ _ hzl).trans z0⟩
        have hbd : Below w.heap.size w wr.drew := hb.drew
        have HW1 := hide (HB.out wr.drew (h.below hbd (Nat.le_refl _)) (hm.below hbd (Nat.le_refl _)) (hbl.below hbd (hbl.lt)) (hbm.below hbd (hbm.lt)) (hby.below hbd (hby.lt)))
        clear hSe hS' HB
        go_wp2_with fail
        refine wp_region_call 7 S' (by kernel_rfl) (by kernel_rfl) HSI.out ?_
        simp only [List.take_succ_cons, List.take_zero, List.drop_succ_cons, List.drop_zero]
        iterate 7
          apply headK_step (by rfl)
          · intro w' hw'
            obtain ⟨s0, s1, s2⟩ := HSE.out w' hw'
            go_simp
            rfl
          intro a' ha'
          simp only [Act.put, List.setIfInBounds_toArray, List.set_cons_succ, List.set_cons_zero] at ha'
          subst ha'
        refine headK_nil ?_
        intro q hq K0 hK0
        simp only [List.getElem?_cons_succ, List.getElem?_cons_zero, Option.some.injEq] at hq
        subst hq
        have HK0 := hide hK0
        clear hK0
        go_simp
        go_at_call 155
        rw [IntWalk.i64_in ((o' : Int) + 1) (by omega)]
        with_reducible refine (HW1.out).mono ?_
        rintro e w1 ⟨a1, c1, rfl, own1, hb1⟩
        refine HK0.out _ _ (HSI4.out w1 hb1) ?_
        obtain ⟨j0, j1, j2⟩ := HSE.out w1 (HSI4.out w1 hb1)
        have hB1 := HKP.out w1 ⟨hb1.os, hb1.tape, hb1.output, hb1.size, hb1.block⟩
        have hz1 := hB1.size
        have hoo1 : Own w1 w.heap.size 3 ao co X := hoo.drew.belowN hb1
        have hat1 := own1.at_
        have hne1 : ∀ q, a1.map (·.block) = some q → ao.map (·.block) ≠ some q := fun q hq hq' => by have := (own1.blk q hq).1; have := (hoo.blk q hq').2; simp at *; omega
        have HQ1 := hide (fun q (hq : a1.map (·.block) = some q) => (own1.blk q hq).2)
        clear HK0 HSI HSI4 HSE HW1 own1
        go_wp2
        refine NoPanic.normal ?_
        obtain ⟨PL, hPLe⟩ : ∃ PL, PL = b.plI (o' + 1) := ⟨_, rfl⟩
        rw [← hPLe] at hat1 HXW HPL
        have HPLE := hide hPLe
        clear hPLe
        by_cases hU0 : U = 0
        · have hnil : PL = [] := List.eq_nil_of_length_eq_zero (by rw [HPL.out]; exact hU0)
          have e2 : o' + b.size + 2 = E + 1 := by have := HE.out; omega
          have hxr : X ++ r.plI (E + 1) = R := by have := HXW.out; rw [hnil, e2] at this; simpa using this
          have hwr' : n + r.wr = G := by have := HSW.out; rw [hU0] at this; simpa using this
          have HXR := hide hxr
          have HWR := hide hwr'
          clear hxr hwr' hnil e2
          subst hU0
          go_wp2
          go_roundw
          case rel => exact ⟨r, E + 1, n, ao, co, X, by go_num, rfl, hn, hn5, by have := HGZ.out; have := HE.out; show E + 1 + r.size = Z; omega, by omega, by have := HGN.out; show r.size < N + 1; omega, by have := HE.out; show Stands l m (E + 1) r; rw [this]; exact HST.out, HV4.out, HWR.out, HXR.out, hoo1, hB1⟩
          case measure => have := HE.out; simp [intOf]; omega
        · have hUp : 0 < (U : Int) := by omega
          have hVU : n + U * V ≤ 65536 := by have := HSW.out; omega
          have HVU := hide hVU
          have hV6 : V ≤ U * V := Nat.le_mul_of_pos_left _ (by omega)
          have hV65 : V ≤ 65536 := by omega
          obtain ⟨l0', l1'⟩ := (hbl.below hB1 hbl.lt).c1
          obtain ⟨b1', off1', ha', x0', x1', x2', x3', x4'⟩ := getOp_eq h hB1 HE1.out
          obtain ⟨rfl, rfl⟩ : b1 = b1' ∧ off1 = off1' := by injection ha' with ha'; injection ha' with h1 h2; exact ⟨h1, h2⟩
          rw [← HVV.out] at x4'
          clear ha'
          go_wp2
          go_loopw [8, 43] (fun ov kv wr2 => ∃ (k n2 : Nat) (ao2 : Option Addr) (co2 : Nat), kv = .int .u64 k ∧ k ≤ V ∧ ov = .slice ao2 n2 co2 ∧ Hid (n2 = (X ++ (List.replicate k PL).flatten).length) ∧ n2 ≤ 65536 ∧
            Own wr2 w.heap.size 3 ao2 co2 (X ++ (List.replicate k PL).flatten) ∧ Below w.heap.size w wr2 ∧ At wr2 a1 PL ∧ (∀ q, a1.map (·.block) = some q → ao2.map (·.block) ≠ some q) ∧ w1.heap.size ≤ wr2.heap.size ∧ wr2.cell? ⟨bm, 0, none⟩ = some (.slice (some ⟨b2, off2, none⟩) m.length cm) ∧ wr2.cell? ⟨b2, off2 + o', none⟩ = some (.int .i64 (E : Int))) (fun _ kv _ => V - (intOf kv).toNat)
          case atStart => exact ⟨0, n, ao, co, rfl, by omega, rfl, by show _ = _; rw [hn.out]; simp, by omega, by simpa using hoo1, hB1, hat1, hne1, Nat.le_refl _, j1, j2⟩
          case round =>
            obtain ⟨k, n2, ao2, co2, rfl, hk, rfl, hn2, hn25, hoo2, hbr2, hat2, hne2, hz2, r1, r2⟩ := hrel
            have hzr2 := hbr2.size
            by_cases hkV : k < V
            · have hm2 : U * (k + 1) ≤ U * V := Nat.mul_le_mul_left _ hkV
              rw [Nat.mul_add, Nat.mul_one] at hm2
              have hln : n2 = n + U * k := by rw [hn2.out, List.length_append, ← hn.out, length_rep', HPL.out]
              have b2s : n2 + U ≤ 65536 := by omega
              have HAPP : Hid (X ++ (List.replicate k PL).flatten ++ PL = X ++ (List.replicate (k + 1) PL).flatten) := by
                show _ = _
                rw [List.replicate_succ', List.flatten_append]; simp
              clear hm2 hln hV6 hVU
              go_wp2_with (at_builtin; refine wpList_pushAll tyI hoo2 hat2 rfl rfl rfl rfl hn2.out HPL.out.symm hzr2 (by omega) (by omega) ?_; intro a4 c4 w4 hown4 hg4 hm4)
              rw [HAPP.out] at hown4
              have hmo := (hbm.below hbr2 hbm.lt)
              go_roundw
              case rel =>
                refine ⟨k + 1, by omega, by omega, n2 + U, a4, c4, ⟨rfl, rfl, rfl⟩, ?_, b2s, hown4, below_push hbr2 hoo2 hg4 hzr2, ?_, ?_, by have := hg4.size; omega, ?_, ?_⟩
                · show n2 + U = _
                  have h9 : n2 + U = (X ++ (List.replicate (k + 1) PL).flatten).length := by rw [← HAPP.out, List.length_append, ← hn2.out, HPL.out]
                  rw [h9, List.length_append, length_rep', Nat.mul_comm]
                · exact hat2.grown hg4 (fun hne => by
                    obtain ⟨bb, oo, e, _⟩ := hat2.lt hne
                    exact .inl (fun e' => by rw [e] at e' hne2; exact hne2 bb rfl e'.symm))
                · intro q hq x hx e
                  have h1 : a1.map (·.block) = some q.block := by rw [hq]; rfl
                  rcases hm4 with e4 | ⟨g', e4, hle⟩
                  · exact hne2 _ h1 (by rw [← e4, hx, ← e]; rfl)
                  · rw [hx] at e4
                    have e5 : x.block = g' := by injection e4
                    have := HQ1.out _ h1
                    omega
                · exact (hg4.cell (a := ⟨bm, 0, none⟩) r1 (fun e => by have := (hoo2.blk bm e.symm).1; have := hbm.lt; omega))
                · exact (hg4.cell (a := ⟨b2, off2 + o', none⟩) r2 (fun e => by have h1 := (hoo2.blk b2 e.symm).1; obtain ⟨bq, oq, e', h2⟩ := hm.lt (List.ne_nil_of_length_pos (by omega)); injection e' with e'; injection e' with e' _ _; omega))
              case measure => simp [intOf]; omega
            · obtain rfl : k = V := by omega
              have e2 : o' + b.size + 2 = E + 1 := by have := HE.out; omega
              have hxr : (X ++ (List.replicate k PL).flatten) ++ r.plI (E + 1) = R := by have := HXW.out; rw [e2] at this; rw [List.append_assoc]; exact this
              have hwr' : n2 + r.wr = G := by have := HSW.out; have h2 := hn2.out; rw [List.length_append, length_rep', HPL.out, ← hn.out] at h2; omega
              have HXR := hide hxr
              have HWR := hide hwr'
              clear hxr hwr' e2
              go_wp2
              go_roundw
              case rel => exact ⟨r, E + 1, n2, ao2, co2, _, by go_num, rfl, hn2, hn25, by have := HGZ.out; have := HE.out; show E + 1 + r.size = Z; omega, by omega, by have := HGN.out; show r.size < N + 1; omega, by have := HE.out; show Stands l m (E + 1) r; rw [this]; exact HST.out, HV4.out, HWR.out, HXR.out, hoo2, hbr2⟩
              case measure => have := HE.out; simp [intOf]; omega
end
set_option maxRecDepth 100000 in
set_option maxHeartbeats 1600000 in
theorem places_calls (a : Option Addr) (c n : Nat) (f : Fo) (hn : n = f.flat.length) (w : World) (h : At w a f.flat) (hl : n ≤ 1000000) (hf : f.ok) (hv : f.may = true) (hw : f.wr ≤ 65536) :
    Calls Try.prog 147 #[.slice a n c] w fun e w' => ∃ a' c', e = .returned (.slice a' f.wr c') ∧ Own w' w.heap.size 3 a' c' (f.plI 0) ∧ Below w.heap.size w w' := by
  subst hn
  have hb0 := below_new12 w (.cells #[.slice a f.flat.length c] 22)
  have hX := Blk.new w 22 #[.slice a f.flat.length c]
  have h1 := h.belowN hb0
  have HM := hide (Match_calls a c f.flat _ h1 hl)
  unfold MatchPost at HM
  have hms : matchS f.flat = (matchL f.flat, 0) := by unfold matchS; rw [if_pos (well_of_flat f hf)]
  rw [hms] at HM
  simp only at HM
  have HL := hide (fun (bl bm by' : Nat) (am : Option Addr) (cm : Nat) (w' : World) => lay16_all (bl := bl) (bm := bm) (by' := by') (a := a) (am := am) (c := c) (cm := cm) (l := f.flat) (m := matchL f.flat) hl (f.size + 1) f (by omega) 0 0 (f.flat.length : Int) w' rfl (by simp [Fo.size]))
  have HST := hide (Stands.whole hf)
  clear hms
  go_enter Try.func147, Try.ntmps147
  go_wp2_with (first
    | (go_at_call 92; go_must ((with_reducible refine (HM.out).mono ?_); rintro e w1 ⟨a1, c1, rfl, hown1, hb1⟩; have hB1 := hb0.trans (hb1.mono hb0.size); have hz1 := hB1.size; have hX1 := hX.belowN hb1; have h2 := h1.belowN hb1; have hs1 := hb1.size; simp only [World.size_alloc] at hs1; have hn1 := below_new12 w1 (.cells #[.slice a1 (matchL f.flat).length c1] 25); have hn2 := hn1.alloc (by simp) (.cells #[.func (.func 155) #[] #[.pointer (some ⟨w.heap.size, 0, none⟩), .pointer (some ⟨w1.heap.size + 1, 0, none⟩), .pointer (some ⟨w1.heap.size, 0, none⟩)]] 226); have hM2 := (Blk.new w1 25 #[.slice a1 (matchL f.flat).length c1]).alloc (.cells #[.func (.func 155) #[] #[.pointer (some ⟨w.heap.size, 0, none⟩), .pointer (some ⟨w1.heap.size + 1, 0, none⟩), .pointer (some ⟨w1.heap.size, 0, none⟩)]] 226); have hY2 := Blk.new (w1.alloc (.cells #[.slice a1 (matchL f.flat).length c1] 25)) 226 #[.func (.func 155) #[] #[.pointer (some ⟨w.heap.size, 0, none⟩), .pointer (some ⟨w1.heap.size + 1, 0, none⟩), .pointer (some ⟨w1.heap.size, 0, none⟩)]]; simp only [World.size_alloc] at hY2; have hX2 := hX1.belowN hn2; obtain ⟨k0, k1⟩ := hX2.c1))
    | (go_at_call 155; go_must ((with_reducible refine (HL.out _ _ _ _ _ _ (h2.belowN hn2) (hown1.at_.belowN hn2) hX2 hM2 hY2 HST.out hv hw).mono ?_); rintro e w3 ⟨a3, c3, rfl, hown3, hb3⟩)))
  go_ret
  have hB2 := hB1.trans (hn2.mono hz1)
  exact ⟨a3, c3, rfl, hown3.mono hB2.size, hB2.trans (hb3.mono hB2.size)⟩
end Go.Proofs.Ythncfoompoheoaa
