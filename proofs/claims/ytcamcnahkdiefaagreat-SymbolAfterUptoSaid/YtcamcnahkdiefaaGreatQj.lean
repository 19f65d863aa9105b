/- Several texts of mine in one file: R12a, R12b, Ur. -/
import Derived.Test.YtcamcnahkdiefaaGreatQh
import Derived.Test.YtcamcnahkdiefaaGreatQi
/- Chapter 12, the document's answers: bare operations, Code. -/
namespace Go.Proofs.YtcamcnahkdiefaaGreat
set_option linter.unusedVariables false
set_option linter.unusedSimpArgs false
open Go.RowKit

theorem map_set_fst (X : List (OpD × Int)) (i : Nat) (op : OpD) (t u : Int) (h : X[i]? = some (op, t)) : (X.set i (op, u)).map (·.1) = X.map (·.1) := by
  rw [List.map_set]
  have : (X.map (·.1))[i]? = some op := by rw [List.getElem?_map, h]; rfl
  obtain ⟨hi, e⟩ := List.getElem?_eq_some_iff.1 this
  show (X.map (·.1)).set i op = _
  rw [← e]
  exact List.set_getElem_self hi

set_option maxRecDepth 100000 in
set_option maxHeartbeats 3200000 in
theorem bare_calls (a : Option Addr) (c : Nat) (f : Fo) (w : World) (h : At w a f.flat) (hf : f.ok) (hmay : f.may = true ∧ f.wr ≤ 65536) (hl : f.flat.length ≤ 1000000) :
    Calls Tryz.prog 88 #[.slice a f.flat.length c] w fun e w' => ∃ a' c', e = .returned (.slice a' f.bare.flat.length c') ∧ Own w' w.heap.size 89 a' c' f.bare.flat ∧ Below w.heap.size w w' := by
  have HM := hide (fun w' (g1 : At w' a f.flat) => Match8W a c f.flat w' g1 hl (well_of_flat f hf))
  have HZ := hide (fun w' (g1 : At w' a f.flat) => Sizes9_calls a c f.flat w' g1 hl)
  obtain ⟨z1, z2, z3, z4⟩ := W9_ok hf hmay
  unfold List9Post at HZ
  rw [z1, z3, f.sizes_length] at HZ
  change Hid (∀ w', At w' a f.flat → Calls Tryz.prog 130 #[.slice a f.flat.length c] w' fun e w'' => ∃ a' c', e = .returned (.tuple #[.slice a' f.flat.length c', .int .i64 0]) ∧ Own w'' w'.heap.size 3 a' c' f.sizes ∧ Below w'.heap.size w' w'') at HZ
  have HF := hide hf
  clear z1 z2 z3 z4 hf hmay
  go_enter Tryz.func88, Tryz.ntmps88
  go_wp2_with (first
    | (go_at_call 89; ((with_reducible refine (HM.out _ h).mono ?_); rintro e w2 ⟨am, cm, rfl, hom, hb2⟩))
    | (go_at_call 130; ((with_reducible refine (HZ.out _ (h.belowN hb2)).mono ?_); rintro e w3 ⟨az, cz, rfl, hoz, hb3⟩; have hB3 := hb2.trans (hb3.mono hb2.size))))
  have hm3 : At w3 am (matchL f.flat) := (hom.belowN hb3).at_
  have hz3 : At w3 az f.sizes := hoz.at_
  have hl3 : At w3 a f.flat := h.belowN hB3
  have hs3 := hB3.size
  clear hom hoz hb2 hb3 HM HZ
  go_loopw [7, 8] (fun ov iv wr => ∃ (i : Nat) (ao : Option Addr) (co n : Nat) (out : List (OpD × Int)) (gf : Fo) (st : List Cf), iv = .int .i64 i ∧ i ≤ f.flat.length ∧ ov = .slice ao n co ∧ Hid (n = (out.map (·.1)).length) ∧ n ≤ i ∧
      Hid (CdOk f.flat (matchL f.flat) (f.bare.code 0) i out gf st) ∧ Own wr w3.heap.size 89 ao co (out.map (·.1)) ∧ Below w3.heap.size w3 wr) (fun _ iv _ => f.flat.length - (intOf iv).toNat)
  case atStart => exact ⟨0, _, 0, 0, [], f, [], rfl, by omega, rfl, rfl, by omega, hide (CdOk.start HF.out), Own.new w3 (Nat.le_refl _) _ OpD, Below.alloc (Below.refl _ _) (Nat.le_refl _) _⟩
  case round =>
    obtain ⟨i, ao, co, n, out, gf, st, rfl, hi, rfl, hn, hni, hcd, hoo, hbr⟩ := hrel
    have hzr := hbr.size
    by_cases hlt : i < f.flat.length
    · cases gf with
      | nil =>
        cases st with
        | nil => exact absurd (hcd.out.done).1 (by omega)
        | cons s0 st =>
          obtain ⟨e1, ek, eo, hcd2⟩ := hcd.out.end_
          obtain ⟨b1, off1, rfl, x0, x1, x2, x3, x4⟩ := getOp_eq hl3 hbr e1
          have k7 : (s0.fin.kind == 7) = false := by simp; omega
          have HCD := hide hcd2
          have HL : Hid (n + 1 = (((out.set s0.bg (s0.op, ((out.length + 1 : Nat) : Int))) ++ [(s0.fin, ((s0.bg + 1 : Nat) : Int))]).map (·.1)).length) := by
            show n + 1 = _
            rw [hn.out]; simp
          have HE : Hid (out.map (·.1) ++ [s0.fin] = ((out.set s0.bg (s0.op, ((out.length + 1 : Nat) : Int))) ++ [(s0.fin, ((s0.bg + 1 : Nat) : Int))]).map (·.1)) := by
            show _ = _
            rw [List.map_append, map_set_fst _ _ _ _ _ eo]; rfl
          clear e1 ek eo hcd2
          go_wp2_with (at_builtin; refine wpList_push tyO hoo s0.fin rfl rfl rfl rfl rfl rfl hn.out hzr (by omega) ?_; intro a4 c4 w4 hown4 hg4 _)
          rw [HE.out] at hown4
          go_roundw
          case rel => exact ⟨i + 1, a4, c4, n + 1, _, s0.r, st, by go_num, by omega, rfl, HL, by omega, HCD, hown4, below_push hbr hoo hg4 hzr⟩
          case measure => simp [intOf]; omega
      | leaf op r =>
        obtain ⟨e1, k1, k2, hcd2⟩ := hcd.out.leaf
        obtain ⟨b1, off1, rfl, x0, x1, x2, x3, x4⟩ := getOp_eq hl3 hbr e1
        have k7 : (op.kind == 7) = false := by simp; omega
        have HCD := hide hcd2
        have HE : Hid (out.map (·.1) ++ [op] = (out ++ [(op, (0 : Int))]).map (·.1)) := by show _ = _; simp
        have HL : Hid (n + 1 = ((out ++ [(op, (0 : Int))]).map (·.1)).length) := by show n + 1 = _; rw [hn.out]; simp
        clear e1 k1 k2 hcd2
        go_wp2_with (at_builtin; refine wpList_push tyO hoo op rfl rfl rfl rfl rfl rfl hn.out hzr (by omega) ?_; intro a4 c4 w4 hown4 hg4 _)
        rw [HE.out] at hown4
        go_roundw
        case rel => exact ⟨i + 1, a4, c4, n + 1, _, r, st, by go_num, by omega, rfl, HL, by omega, HCD, hown4, below_push hbr hoo hg4 hzr⟩
        case measure => simp [intOf]; omega
      | rep op b fin r =>
        have hst := hcd.out.1
        obtain ⟨e1, k7, e3, _⟩ := hst.rep
        have es := sizes_at HF.out hst
        obtain ⟨b1, off1, rfl, x0, x1, x2, x3, x4⟩ := getOp_eq hl3 hbr e1
        obtain ⟨b2, off2, rfl, y0⟩ := getI_eq hz3 hbr es
        obtain ⟨b3, off3, rfl, m0⟩ := getI_eq hm3 hbr e3
        have k7b : (op.kind == 7) = true := by simp; omega
        have hle := hst.lt.1
        rw [Fo.size_rep] at hle
        have hle2 : i + b.size + 1 < f.flat.length := by omega
        obtain ⟨Z, hZ⟩ : ∃ Z : Nat, Z = i + b.size + 1 := ⟨_, rfl⟩
        rw [← hZ] at m0 hle2
        have HZ := hide hZ
        have hZi : i < Z := by omega
        by_cases hq : b.wr * op.v.toNat = 0
        · have hcd2 := hcd.out.skip hq
          rw [show i + b.size + 2 = Z + 1 by omega] at hcd2
          rw [hq] at y0
          have HCD := hide hcd2
          clear e1 k7 e3 es hst hle hZ hq hcd2
          go_wp2
          go_roundw
          case rel => exact ⟨Z + 1, ao, co, n, out, r, st, by go_num, by omega, rfl, hn, by omega, HCD, hoo, hbr⟩
          case measure => simp [intOf]; omega
        · have hcd2 := hcd.out.open_ hq
          obtain ⟨q, hqq⟩ : ∃ q : Nat, q = b.wr * op.v.toNat := ⟨_, rfl⟩
          rw [← hqq] at y0 hq
          have hqb : ((q : Int) == 0) = false := by simpa using hq
          have HCD := hide hcd2
          have HE : Hid (out.map (·.1) ++ [op] = (out ++ [(op, (0 : Int))]).map (·.1)) := by show _ = _; simp
          have HL : Hid (n + 1 = ((out ++ [(op, (0 : Int))]).map (·.1)).length) := by show n + 1 = _; rw [hn.out]; simp
          clear e1 k7 e3 es hst hle hZ hqq hq hcd2
          go_wp2_with (at_builtin; refine wpList_push tyO hoo op rfl rfl rfl rfl rfl rfl hn.out hzr (by omega) ?_; intro a4 c4 w4 hown4 hg4 _)
          rw [HE.out] at hown4
          go_roundw
          case rel => exact ⟨i + 1, a4, c4, n + 1, _, b, _, by go_num, by omega, rfl, HL, by omega, HCD, hown4, below_push hbr hoo hg4 hzr⟩
          case measure => simp [intOf]; omega
    · obtain rfl : i = f.flat.length := by omega
      obtain ⟨rfl, rfl⟩ := hcd.out.last.2 rfl
      have HD := hide (hcd.out.done.2)
      have he : out.map (·.1) = f.bare.flat := by rw [← HD.out, Fo.code_ops]
      have hn2 := hn.out
      rw [he] at hoo hn2
      have HN := hide hn2
      clear he hn hn2
      go_wp2
      go_ret
      exact ⟨ao, co, by rw [HN.out]; rfl, hoo.mono hs3, hB3.trans (hbr.mono hs3)⟩

/-! ### Code -/
theorem code_at (f : Fo) : ∀ (o i : Nat) (x : OpD) (m : Int), f.flat[i]? = some x → (mtT o f)[i]? = some m → (f.code o)[i]? = some (x, if 0 ≤ m then m + 1 else 0) := by
  induction f with
  | nil => intro o i x m h _; simp [Fo.flat] at h
  | leaf op r ih =>
    intro o i x m h hm
    cases i with
    | zero => simp [Fo.flat, mtT] at h hm; subst h hm; simp [Fo.code]
    | succ i => simp [Fo.flat, mtT] at h hm; simpa [Fo.code] using ih (o + 1) i x m h hm
  | rep op b fin r ihb ihr =>
    intro o i x m h hm
    have hb : b.flat.length = b.size := rfl
    cases i with
    | zero => simp [Fo.flat, mtT] at h hm; subst h hm; simp [Fo.code] <;> omega
    | succ i =>
      simp only [Fo.flat, mtT, Fo.code, List.getElem?_cons_succ] at h hm ⊢
      by_cases h1 : i < b.size
      · rw [List.getElem?_append_left (by rw [hb]; exact h1)] at h
        rw [List.getElem?_append_left (by rw [mtT_length]; exact h1)] at hm
        rw [List.getElem?_append_left (by rw [Fo.code_length]; exact h1)]
        exact ihb _ i x m h hm
      · rw [List.getElem?_append_right (by rw [hb]; omega), hb] at h
        rw [List.getElem?_append_right (by rw [mtT_length]; omega), mtT_length] at hm
        rw [List.getElem?_append_right (by rw [Fo.code_length]; omega), Fo.code_length]
        cases hj : i - b.size with
        | zero => rw [hj] at h hm; simp at h hm; subst h hm; simp <;> omega
        | succ j => rw [hj] at h hm; simp at h hm; simpa using ihr _ j x m h hm

theorem mtT_bd (f : Fo) : ∀ (o : Nat), ∀ z ∈ mtT o f, -1 ≤ z ∧ z < ((o + f.size : Nat) : Int) := by
  induction f with
  | nil => intro o z h; cases h
  | leaf op r ih =>
    intro o z h
    rw [Fo.size_leaf]
    simp only [mtT, List.mem_cons] at h
    rcases h with rfl | h
    · omega
    · have := ih (o + 1) z h; omega
  | rep op b fin r ihb ihr =>
    intro o z h
    rw [Fo.size_rep]
    simp only [mtT, List.mem_cons, List.mem_append] at h
    rcases h with rfl | h | rfl | h
    · omega
    · have := ihb (o + 1) z h; omega
    · omega
    · have := ihr (o + b.size + 2) z h; omega
theorem below_new10 (w : World) (o : Obj) : Below w.heap.size w (w.alloc o) := Below.alloc (Below.refl _ _) (Nat.le_refl _) _
end Go.Proofs.YtcamcnahkdiefaaGreat

/- Chapter 12, the document's answers: Laid, Unroll, Steps. -/
namespace Go.Proofs.YtcamcnahkdiefaaGreat
set_option linter.unusedVariables false
set_option linter.unusedSimpArgs false
open Go.RowKit

def Laid12 (a am : Option Addr) (c cm : Nat) (l : List OpD) (m : List Int) (f : Fo) : Prop :=
  ∀ (o : Nat) (F T : Int) (w : World), F = (o : Int) → T = ((o + f.size : Nat) : Int) → At w a l → At w am m → Stands l m o f → f.full → f.gone.length ≤ 2000000 → f.unroll.length ≤ 1000000 →
    Calls Tryz.prog 90 #[.slice a l.length c, .slice am m.length cm, .int .i64 F, .int .i64 T] w fun e w' => ∃ a' c', e = .returned (.tuple #[.slice a' f.unroll.length c', .int .i64 (f.gone.length : Int)]) ∧ Own w' w.heap.size 89 a' c' f.unroll ∧ Below w.heap.size w w'

section
variable {a am : Option Addr} {c cm : Nat} {l : List OpD} {m : List Int}
set_option maxRecDepth 100000 in
set_option maxHeartbeats 3200000 in
theorem laid12_all (hl : l.length ≤ 1000000) : ∀ (N : Nat) (f : Fo), f.size < N → Laid12 a am c cm l m f := by
  intro N
  induction N with
  | zero => intro f hf; omega
  | succ N ih =>
    intro f hf o F T w hF hT h hm hs hv hg hu
    obtain ⟨hl1, hl2⟩ := hs.lt
    have IH := hide ih
    obtain ⟨Z, hZ⟩ : ∃ Z, Z = o + f.size := ⟨_, rfl⟩
    have HZ := hide hZ
    have HS := hide hs
    have HV := hide hv
    rw [← hZ] at hl1 hl2 hT
    obtain ⟨R, hR⟩ : ∃ R, R = f.unroll := ⟨_, rfl⟩
    obtain ⟨G, hG⟩ : ∃ G, G = f.gone.length := ⟨_, rfl⟩
    have HR := hide hR
    have HG := hide hG
    rw [← hR] at hu ⊢
    rw [← hG] at hg ⊢
    subst hF hT
    have hfz : f.size < N + 1 := hf
    clear ih hs hv hR hG hZ
    go_enter Tryz.func90, Tryz.ntmps90
    go_wp2
    go_loopw [10, 11, 12] (fun ov sv iv wr => ∃ (g : Fo) (o' s n : Nat) (ao : Option Addr) (co : Nat) (X : List OpD), iv = .int .i64 o' ∧ sv = .int .i64 s ∧ ov = .slice ao n co ∧ Hid (n = X.length) ∧ n ≤ 1000000 ∧ Hid (o' + g.size = Z) ∧ o' ≤ Z ∧ Hid (g.size < N + 1) ∧ Hid (Stands l m o' g) ∧ Hid g.full ∧ Hid (s + g.gone.length = G) ∧ s ≤ G ∧ Hid (X ++ g.unroll = R) ∧
      Own wr w.heap.size 89 ao co X ∧ Below w.heap.size w wr) (fun _ _ iv _ => Z - (intOf iv).toNat)
    case atStart => exact ⟨f, o, 0, 0, _, 0, [], rfl, rfl, rfl, rfl, by omega, HZ.out.symm, by have := HZ.out; omega, hfz, HS.out, HV.out, by have := HG.out; simp [Hid, this], by omega, by have := HR.out; simp [Hid, this], Own.new w (Nat.le_refl _) _ OpD, Below.alloc (Below.refl _ _) (Nat.le_refl _) _⟩
    case round =>
      obtain ⟨g, o', s, n, ao, co, X, rfl, rfl, rfl, hn, hn5, hgz, hoz, hgn, hgs, hgv, hsg, hs5, hx5, hoo, hb⟩ := hrel
      have hzr := hb.size
      cases g with
      | nil =>
        have ez : o' = Z := hgz.out
        have es : s = G := hsg.out
        have ex : X = R := by have := hx5.out; simpa [Fo.unroll] using this
        have HN := hide (hn.out.trans (by rw [ex]) : n = R.length)
        subst ez es ex
        go_wp2
        go_ret2
        exact ⟨ao, co, by rw [← hn.out]; rfl, hoo, hb⟩
      | leaf op r =>
        obtain ⟨e1, k1, k2, e2, hsr'⟩ := hgs.out.leaf
        have hgz' := hgz.out
        have hgn' := hgn.out
        have hsw := hsg.out
        have hxw := hx5.out
        rw [Fo.size_leaf] at hgz' hgn'
        simp only [Fo.gone, List.length_cons] at hsw
        simp only [Fo.unroll] at hxw
        have hoz' : o' < Z := by omega
        have hol : o' < l.length := by omega
        have hsG : s < G := by omega
        have hnR : n < R.length := by rw [hn.out, ← hxw]; simp
        obtain ⟨b1, off1, rfl, x0, x1, x2, x3, x4⟩ := getOp_eq h hb e1
        have hk7 : (op.kind == 7) = false := by simp; omega
        have hn7 : (op.kind != 7) = true := by simp; omega
        have HSW := hide hsw
        have HXW := hide hxw
        have HGZ := hide hgz'
        have HGN := hide hgn'
        have HST := hide hsr'
        clear e1 hsw hgz' hgn' hsr' e2 k1 k2 hxw
        go_wp2_with (at_builtin; refine wpList_push tyO hoo op rfl rfl rfl rfl rfl rfl hn.out hzr (by omega) ?_; intro a4 c4 w4 hown4 hg4 _)
        go_roundw
        case rel =>
          exact ⟨r, o' + 1, s + 1, n + 1, a4, c4, X ++ [op], by go_num, by go_num, rfl, by show n + 1 = _; rw [hn.out]; simp, by omega, by have := HGZ.out; show o' + 1 + r.size = Z; omega, by omega, by have := HGN.out; show r.size < N + 1; omega, HST.out, hgv.out, by have := HSW.out; show s + 1 + r.gone.length = G; omega, by omega, by have := HXW.out; show X ++ [op] ++ r.unroll = R; rw [← this]; simp, hown4, below_push hb hoo hg4 hzr⟩
        case measure => simp [intOf]; omega
      | rep op b fin r =>
        obtain ⟨e1, k7, e3, e4, e5, e6, hsb, hsr'⟩ := hgs.out.rep
        have hgz' := hgz.out
        have hgn' := hgn.out
        have hsw := hsg.out
        have hxw := hx5.out
        rw [Fo.size_rep] at hgz' hgn'
        simp only [Fo.gone, List.length_cons, List.length_append] at hsw
        rw [Fo.length_rep, List.length_append, List.length_singleton] at hsw
        simp only [Fo.unroll] at hxw
        have hoz' : o' < Z := by omega
        have hol : o' < l.length := by omega
        have hom : o' < m.length := by omega
        obtain ⟨v1, v2, v3, v4⟩ := hgv.out
        obtain ⟨A, hA⟩ : ∃ A, A = b.gone.length := ⟨_, rfl⟩
        obtain ⟨U, hU⟩ : ∃ U, U = b.unroll.length := ⟨_, rfl⟩
        obtain ⟨V, hV⟩ : ∃ V, V = op.v.toNat := ⟨_, rfl⟩
        rw [← hA, ← hV] at hsw
        rw [← hV] at hxw v1
        have hRl : R.length = n + U * V + r.unroll.length := by
          rw [hn.out, ← hxw, List.length_append, List.length_append, Fo.length_rep, ← hU]; omega
        have hA1 : A + 1 ≤ (A + 1) * V := Nat.le_mul_of_pos_right _ v1
        have hU1 : U ≤ U * V := Nat.le_mul_of_pos_right _ v1
        have hV1 : V ≤ (A + 1) * V := Nat.le_mul_of_pos_left _ (by omega)
        have HB := hide (fun w' h1 h2 => IH.out b (by omega) (o' + 1) ((o' : Int) + 1) ((o' + b.size + 1 : Nat) : Int) w' (by omega) (by omega) h1 h2 hsb v3 (by omega) (by omega))
        rw [← hA, ← hU] at HB
        obtain ⟨b1, off1, rfl, x0, x1, x2, x3, x4⟩ := getOp_eq h hb e1
        obtain ⟨b2, off2, rfl, y0⟩ := getI_eq hm hb e3
        obtain ⟨E, hE⟩ : ∃ E : Nat, E = o' + b.size + 1 := ⟨_, rfl⟩
        rw [← hE] at y0 HB e3
        have hyl := World.block_lt_of_cell? _ _ y0
        have hxl := World.block_lt_of_cell? _ _ x0
        have hk7 : (op.kind == 7) = true := by simp [k7]
        have hn7 : (op.kind != 7) = false := by simp [k7]
        have HSW := hide hsw
        have HXW := hide hxw
        have HGZ := hide hgz'
        have HGN := hide hgn'
        have HST := hide hsr'
        have HE := hide hE
        have HU := hide hU
        have HVV := hide hV
        have HE1 := hide e1
        have HE3 := hide e3
        have HRL := hide hRl
        have HV4 := hide v4
        have hEZ : E < Z := by omega
        have hsG : s < G := by omega
        have hub := op.v.toNat_lt
        rw [← hV] at hub
        clear e1 hsw hgz' hgn' hsr' e3 e4 e5 e6 k7 hE hsb hxw hU hV v1 v2 v3 v4 hA hRl
        go_wp2_with (go_at_call 90; ((with_reducible refine (HB.out _ (h.below hb (Nat.le_refl _)) (hm.below hb (Nat.le_refl _))).mono ?_); rintro e w1 ⟨a1, c1, rfl, own1, hb1⟩))
        have hB1 := hb.trans (hb1.mono hzr)
        have hne1 : ∀ q, a1.map (·.block) = some q → ao.map (·.block) ≠ some q := fun q hq hq' => by have := (own1.blk q hq).1; have := (hoo.blk q hq').2; omega
        have hoo1 := hoo.belowN hb1
        have hat1 := own1.at_
        have HQ1 := hide (fun q (hq : a1.map (·.block) = some q) => (own1.blk q hq).2)
        clear HB own1 x0 x1 x2 x3 x4 y0
        go_loopw [10, 11, 15] (fun ov sv kv wr2 => ∃ (k s2 n2 : Nat) (ao2 : Option Addr) (co2 : Nat), kv = .int .u64 k ∧ k ≤ V ∧ sv = .int .i64 s2 ∧ Hid (s2 = s + 1 + (A + 1) * k) ∧ s2 ≤ G ∧ ov = .slice ao2 n2 co2 ∧ Hid (n2 = (X ++ (List.replicate k b.unroll).flatten).length) ∧ n2 ≤ 1000000 ∧
          Own wr2 w.heap.size 89 ao2 co2 (X ++ (List.replicate k b.unroll).flatten) ∧ Below w.heap.size w wr2 ∧ At wr2 a1 b.unroll ∧ (∀ q, a1.map (·.block) = some q → ao2.map (·.block) ≠ some q) ∧ w1.heap.size ≤ wr2.heap.size) (fun _ _ kv _ => V - (intOf kv).toNat)
        case atStart => exact ⟨0, s + 1, n, ao, co, rfl, by omega, by go_num, by show _ = _; simp, by omega, rfl, by show _ = _; rw [hn.out]; simp, by omega, by simpa using hoo1, hB1, hat1, hne1, Nat.le_refl _⟩
        case round =>
          obtain ⟨k, s2, n2, ao2, co2, rfl, hk, rfl, hs2, hs2G, rfl, hn2, hn25, hoo2, hbr2, hat2, hne2, hz2⟩ := hrel
          have hzr2 := hbr2.size
          obtain ⟨b1', off1', ha', x0, x1, x2, x3, x4⟩ := getOp_eq h hbr2 HE1.out
          obtain ⟨rfl, rfl⟩ : b1 = b1' ∧ off1 = off1' := by injection ha' with ha'; injection ha' with h1 h2; exact ⟨h1, h2⟩
          obtain ⟨b2', off2', hm', y0⟩ := getI_eq hm hbr2 HE3.out
          obtain ⟨rfl, rfl⟩ : b2 = b2' ∧ off2 = off2' := by injection hm' with hm'; injection hm' with h1 h2; exact ⟨h1, h2⟩
          rw [← HVV.out] at x4
          clear ha' hm'
          by_cases hkV : k < V
          · have hm1 : (A + 1) * (k + 1) ≤ (A + 1) * V := Nat.mul_le_mul_left _ hkV
            have hm2 : U * (k + 1) ≤ U * V := Nat.mul_le_mul_left _ hkV
            rw [Nat.mul_add, Nat.mul_one] at hm1 hm2
            have hsw := HSW.out
            have hs2' := hs2.out
            have hrl := HRL.out
            have hln : n2 = n + U * k := by rw [hn2.out, List.length_append, Fo.length_rep, ← hn.out, ← HU.out]
            have b1s : s2 + A + 1 ≤ G := by omega
            have b2s : n2 + U ≤ 1000000 := by omega
            have hA5 : A ≤ 2000000 := by omega
            have hU5 : U ≤ 1000000 := by omega
            have HAPP : Hid (X ++ (List.replicate k b.unroll).flatten ++ b.unroll = X ++ (List.replicate (k + 1) b.unroll).flatten) := by
              show _ = _
              rw [List.replicate_succ', List.flatten_append]; simp
            clear hm1 hm2 hsw hs2' hrl hln hA1 hU1 hV1
            go_wp2_with (at_builtin; refine wpList_pushAll tyO hoo2 hat2 rfl rfl rfl rfl hn2.out HU.out hzr2 (by omega) (by omega) ?_; intro a4 c4 w4 hown4 hg4 hm4)
            rw [HAPP.out] at hown4
            go_roundw
            case rel =>
              refine ⟨k + 1, s2 + A + 1, n2 + U, a4, c4, by go_num, by omega, by go_num, ?_, b1s, by go_num, ?_, b2s, hown4, below_push hbr2 hoo2 hg4 hzr2, ?_, ?_, by have := hg4.size; omega⟩
              · show s2 + A + 1 = _; rw [hs2.out, Nat.mul_add]; omega
              · show n2 + U = _; rw [← HAPP.out, List.length_append, ← hn2.out, ← HU.out]
              · exact hat2.grown hg4 (fun hne => by
                  obtain ⟨bb, oo, e, _⟩ := hat2.lt hne
                  exact .inl (fun e' => by rw [e] at e' hne2; exact hne2 bb rfl e'.symm))
              · intro q hq
                rcases hm4 with e | ⟨g', e, hle⟩
                · rw [e]; exact hne2 q hq
                · rw [e]; intro e'; injection e' with e'
                  have := HQ1.out q hq
                  omega
            case measure => simp [intOf]; omega
          · obtain rfl : k = V := by omega
            have hs2' := hs2.out
            have hsw := HSW.out
            have hsG2 : s2 + r.gone.length = G := by omega
            have HS2 := hide hsG2
            have hxr : (X ++ (List.replicate k b.unroll).flatten) ++ r.unroll = R := by rw [List.append_assoc]; exact HXW.out
            have HXR := hide hxr
            clear hs2' hsw hsG2 hxr
            go_wp2
            go_roundw
            case rel =>
              exact ⟨r, E + 1, s2, n2, ao2, co2, _, by go_num, rfl, rfl, hn2, hn25, by have := HGZ.out; have := HE.out; show E + 1 + r.size = Z; omega, by omega, by have := HGN.out; show r.size < N + 1; omega, by have := HE.out; show Stands l m (E + 1) r; rw [this]; exact HST.out, HV4.out, HS2.out, by have := HS2.out; omega, HXR.out, hoo2, hbr2⟩
            case measure => have := HE.out; simp [intOf]; omega
end

theorem Laid12_calls (a am : Option Addr) (c cm : Nat) (f : Fo) (w : World) (h : At w a f.flat) (hm : At w am (matchL f.flat)) (hl : f.flat.length ≤ 1000000) (hf : f.ok) (hv : f.full) (hg : f.gone.length ≤ 2000000) (hu : f.unroll.length ≤ 1000000) :
    Calls Tryz.prog 90 #[.slice a f.flat.length c, .slice am f.flat.length cm, .int .i64 0, .int .i64 (f.flat.length : Int)] w fun e w' => ∃ a' c', e = .returned (.tuple #[.slice a' f.unroll.length c', .int .i64 (f.gone.length : Int)]) ∧ Own w' w.heap.size 89 a' c' f.unroll ∧ Below w.heap.size w w' := by
  have := laid12_all (a := a) (am := am) (c := c) (cm := cm) hl (f.size + 1) f (by omega) 0 0 (f.flat.length : Int) w rfl (by simp [Fo.size]) h hm (Stands.whole hf) hv hg hu
  rwa [matchL_length] at this
theorem Good.unroll_le {regs : Int} {f : Fo} (g : Good regs f) : f.unroll.length ≤ 65536 := by rw [Fo.unroll_length]; exact g.few

set_option maxHeartbeats 800000 in
theorem Unroll12_bad (regs : Int) (a : Option Addr) (c : Nat) (l : List OpD) (w : World) (h : At w a l) (hl : l.length ≤ 1000000) (hc : checkS regs l ≠ 0) :
    Calls Tryz.prog 43 #[.agg #[.int .i64 regs, .slice a l.length c]] w (UnrPost regs l w) := by
  have h1 := h.belowN (below_new12 w (.cells #[.int .i64 regs, .slice a l.length c] 24))
  have hb0 := below_new12 w (.cells #[.int .i64 regs, .slice a l.length c] 24)
  have HP := hide (Prog10_calls regs a c l _ h1 hl)
  have HC := hide (unrS_bad hc)
  obtain ⟨E, hE⟩ : ∃ E, E = checkS regs l := ⟨_, rfl⟩
  rw [← hE] at HP hc
  have HE := hide hE
  have e1 : (E == 0) = false := by simpa using hc
  have e2 : (E != 0) = true := by simpa using hc
  clear hE hc
  go_enter Tryz.func43, Tryz.ntmps43
  go_wp2_with (go_at_call 87; ((with_reducible refine (HP.out).mono ?_); rintro e w1 ⟨rfl, hb1⟩))
  go_ret2
  unfold UnrPost
  rw [HC.out, ← HE.out]
  exact ⟨none, 0, rfl, Own.none _ _ _, hb0.trans (hb1.mono hb0.size)⟩
set_option maxRecDepth 100000 in
set_option maxHeartbeats 1600000 in
theorem Unroll12_good (regs : Int) (a : Option Addr) (c : Nat) (f : Fo) (w : World) (h : At w a f.flat) (g : Good regs f) :
    Calls Tryz.prog 43 #[.agg #[.int .i64 regs, .slice a f.flat.length c]] w (UnrPost regs f.flat w) := by
  have hl : f.flat.length ≤ 4096 := g.len
  have h1 := h.belowN (below_new12 w (.cells #[.int .i64 regs, .slice a f.flat.length c] 24))
  have hb0 := below_new12 w (.cells #[.int .i64 regs, .slice a f.flat.length c] 24)
  have hX := Blk.new w 24 #[.int .i64 regs, .slice a f.flat.length c]
  have HP := hide (Prog10_calls regs a c f.flat _ h1 (by omega))
  have HB := hide (fun w' (g1 : At w' a f.flat) => bare_calls a c f w' g1 g.ok ⟨g.may, g.few⟩ (by omega))
  have hbl : f.bare.flat.length ≤ 4096 := Nat.le_trans f.bare_size g.len
  have hbok := f.bare_ok g.ok
  have HM := hide (fun (a' : Option Addr) (c' : Nat) w' (g1 : At w' a' f.bare.flat) => Match8W a' c' f.bare.flat w' g1 (by omega) (well_of_flat f.bare hbok))
  have hgl := g.gone_le
  have hul := g.unroll_le
  have HL := hide (fun a2 am c2 cm w' g1 g2 => Laid12_calls a2 am c2 cm f.bare w' g1 g2 (by omega) hbok f.bare_full (by omega) (by rw [f.bare_unroll]; omega))
  rw [f.bare_unroll] at HL
  have HC := hide (unrS_good g)
  have HK := hide g.check
  rw [g.check] at HP
  clear g hbok hgl hul
  generalize f.bare.flat = L at *
  go_enter Tryz.func43, Tryz.ntmps43
  go_wp2_with (first
    | (go_at_call 87; ((with_reducible refine (HP.out).mono ?_); rintro e w1 ⟨rfl, hb1⟩; have hB1 := hb0.trans (hb1.mono hb0.size); obtain ⟨q0, q1, q2, q3⟩ := (hX.belowN hb1).c2))
    | (go_at_call 88; ((with_reducible refine (HB.out _ (h.belowN hB1)).mono ?_); rintro e w2 ⟨ab, cb, rfl, hob, hb2⟩; have hB2 := hB1.trans (hb2.mono hB1.size); clear q0 q1 q2 q3))
    | (go_at_call 89; ((with_reducible refine (HM.out _ _ _ hob.at_).mono ?_); rintro e w3 ⟨am, cm, rfl, hom, hb3⟩; have hB3 := hB2.trans (hb3.mono hB2.size); have hob3 := hob.at_.belowN hb3; have hom3 := hom.at_))
    | (go_at_call 90; ((with_reducible refine (HL.out _ _ _ _ _ hob3 hom3).mono ?_); rintro e w4 ⟨al, cl, rfl, hol, hb4⟩; have hB4 := hB3.trans (hb4.mono hB3.size))))
  go_ret2
  unfold UnrPost
  rw [HC.out, HK.out]
  exact ⟨al, cl, rfl, hol.mono hB3.size, hB4⟩
theorem Unroll12_calls (regs : Int) (a : Option Addr) (c : Nat) (l : List OpD) (w : World) (h : At w a l) (hl : l.length ≤ 1000000) :
    Calls Tryz.prog 43 #[.agg #[.int .i64 regs, .slice a l.length c]] w (UnrPost regs l w) := by
  by_cases hc : checkS regs l = 0
  · obtain ⟨f, rfl, g⟩ := good_of_check hc
    exact Unroll12_good regs a c f w h g
  · exact Unroll12_bad regs a c l w h hl hc
def StepsPost (regs : Int) (l : List OpD) (w : World) (e : Ending) (w' : World) : Prop := e = .returned (.tuple #[.int .i64 (stepsS regs l : Int), .int .i64 (checkS regs l)]) ∧ Below w.heap.size w w'
end Go.Proofs.YtcamcnahkdiefaaGreat

/- Contracts of chapter 12 with their results named; how long they are. -/
namespace Go.Proofs.YtcamcnahkdiefaaGreat
set_option linter.unusedVariables false
set_option linter.unusedSimpArgs false
open Go.RowKit

theorem good_of_lit {regs : Int} {f : Fo} (hf : f.ok) (h : checkS regs f.flat = 0) : Good regs f := by
  obtain ⟨f', e, g⟩ := good_of_check h
  have := Fo.flat_eq hf g.ok e
  subst this
  exact g

theorem codeS_le (regs : Int) (l : List OpD) : (codeS regs l).length ≤ 4096 := by
  by_cases hc : checkS regs l = 0
  · obtain ⟨f, rfl, g⟩ := good_of_check hc
    rw [codeS_good g]; exact g.code_length
  · rw [codeS_bad hc]; simp
theorem unrS_le (regs : Int) (l : List OpD) : (unrS regs l).length ≤ 65536 := by
  by_cases hc : checkS regs l = 0
  · obtain ⟨f, rfl, g⟩ := good_of_check hc
    rw [unrS_good g]; exact g.unroll_le
  · rw [unrS_bad hc]; simp
theorem stepsS_le (regs : Int) (l : List OpD) : stepsS regs l ≤ 65536 * 17 := by
  by_cases hc : checkS regs l = 0
  · obtain ⟨f, rfl, g⟩ := good_of_check hc
    rw [stepsS_good g, steps_length]; exact g.gone_le
  · rw [stepsS_bad hc]; simp
theorem CodeR (regs : Int) (a : Option Addr) (c : Nat) (l : List OpD) (w : World) (R : List (OpD × Int)) (E : Int) (hR : codeS regs l = R) (hE : checkS regs l = E) (h : At w a l) (hl : l.length ≤ 1000000) :
    Calls Tryz.prog 47 #[.agg #[.int .i64 regs, .slice a l.length c]] w fun e w' => ∃ a' c', e = .returned (.tuple #[.slice a' R.length c', .int .i64 E]) ∧ Own w' w.heap.size 176 a' c' R ∧ Below w.heap.size w w' := by
  subst hR hE; exact Code_calls regs a c l w h hl
theorem UnrollR (regs : Int) (a : Option Addr) (c : Nat) (l : List OpD) (w : World) (R : List OpD) (E : Int) (hR : unrS regs l = R) (hE : checkS regs l = E) (h : At w a l) (hl : l.length ≤ 1000000) :
    Calls Tryz.prog 17 #[.agg #[.int .i64 regs, .slice a l.length c]] w fun e w' => ∃ a' c', e = .returned (.tuple #[.slice a' R.length c', .int .i64 E]) ∧ Own w' w.heap.size 89 a' c' R ∧ Below w.heap.size w w' := by
  subst hR hE; exact Unroll_calls regs a c l w h hl
theorem Unroll12R (regs : Int) (a : Option Addr) (c : Nat) (l : List OpD) (w : World) (R : List OpD) (E : Int) (hR : unrS regs l = R) (hE : checkS regs l = E) (h : At w a l) (hl : l.length ≤ 1000000) :
    Calls Tryz.prog 43 #[.agg #[.int .i64 regs, .slice a l.length c]] w fun e w' => ∃ a' c', e = .returned (.tuple #[.slice a' R.length c', .int .i64 E]) ∧ Own w' w.heap.size 89 a' c' R ∧ Below w.heap.size w w' := by
  subst hR hE; exact Unroll12_calls regs a c l w h hl

end Go.Proofs.YtcamcnahkdiefaaGreat
