/- Several texts of mine in one file. -/
import Derived.Test.YtcamcnahkdiefaaGreatYSRae
import Derived.Lib.AppendZeros
import Derived.Test.YtcamcnahkdiefaaGreatYSRac
/- Several texts of mine in one file: Pt, Pn, Pu, Pv. -/
/- poly.Make. -/
namespace Go.Proofs.YtcamcnahkdiefaaGreat
set_option linter.unusedVariables false
set_option linter.unusedSimpArgs false
open Go.RowKit Go.Maps
theorem mk_ok {vars : Int} {l : List Tm} (h : ¬ (vars < 0 ∨ 64 < vars)) (hr : rightL vars l = true) : mkE vars l = allE l ∧ mkV vars l = allV vars l ∧ mkL vars l = allL l := by
  have e : mkE vars l = allE l := by unfold mkE allE; rw [if_neg h, hr]; rfl
  exact ⟨e, by unfold mkV allV; rw [e], by unfold mkL allL; rw [e]⟩
theorem mk_wrong {vars : Int} {l : List Tm} (h : ¬ (vars < 0 ∨ 64 < vars)) (hr : rightL vars l = false) : mkE vars l = 2 ∧ mkV vars l = 0 ∧ mkL vars l = [] := by
  have e : mkE vars l = 2 := by unfold mkE; rw [if_neg h, if_pos hr]
  exact ⟨e, by unfold mkV; rw [e]; rfl, by unfold mkL; rw [e]; rfl⟩
theorem rightL_in {vars : Int} {l : List Tm} (h : rightL vars l = true) : ∀ t ∈ l, InE t.2 := fun t ht => rightT_in (List.all_eq_true.1 h t ht)
theorem LenT.of_right {vars : Int} {l : List Tm} (h : ∀ t ∈ l, rightT vars t.2 = true) : LenT vars.toNat l := fun t ht => by have := rightT_len (h t ht); omega
theorem PolyOut.stored {w wc w5 : World} {g : Nat} {V E : Int} {L : List Tm} {a : Option Addr} {n c : Nat} (hb : Below w.heap.size w w5) (hT : TOut (fun q => wc.heap.size ≤ q) w5 a n c L) (h1 : w.heap.size ≤ g) (h2 : g < wc.heap.size) (h3 : w.heap.size ≤ wc.heap.size) :
    PolyOut V L E w (.returned (.tuple #[.agg #[.int .i64 V, .slice a n c], .int .i64 E])) ((w5.setCell ⟨g, 0, none⟩ (.int .i64 V)).setCell ⟨g, 1, none⟩ (.slice a n c)) :=
  ⟨a, n, c, rfl, ((hT.setCell _ (by omega)).setCell _ (by omega)).imp fun q hq => by omega, (hb.setCell (p := ⟨g, 0, none⟩) h1 _).setCell (p := ⟨g, 1, none⟩) h1 _⟩
set_option maxRecDepth 100000 in
set_option maxHeartbeats 6400000 in
theorem PMake_calls (P : Nat → Prop) (vars : Int) (a : Option Addr) (n c : Nat) (ts : List Tm) (w : World) (h : TOut P w a n c ts) (hl : n ≤ 100000000) (hll : ∀ t ∈ ts, t.2.length ≤ 1000000) (V : Int) (L : List Tm) (E : Int) (hV : mkV vars ts = V) (hL : mkL vars ts = L) (hE : mkE vars ts = E) :
    Calls Tryz.prog 84 #[.int .i64 vars, .slice a n c] w (PolyOut V L E w) := by
  have hb0 := below_box w (.cells #[.int .i64 0, .slice none 0 0] 42)
  have hX := Blk.new w 42 #[.int .i64 0, .slice none 0 0]
  by_cases hv : vars < 0 ∨ 64 < vars
  case pos =>
    obtain ⟨q1, q2, q3⟩ := mk_bad hv ts
    rw [q1] at hE
    rw [q2] at hV
    rw [q3] at hL
    subst hE hV hL
    by_cases h1 : vars < 0
    · go_enter Tryz.func84, Tryz.ntmps84
      go_wp2
      refine bodyPost_ret (results_rowP rfl _ _ (w.heap.size) _ #[.int .i64 0, .slice none 0 0] (0, 0) _ rfl hX Tryz.underlying42 rfl (by kernel_rfl)) rfl ?_
      exact PolyOut.bad _ _ _ hb0
    · have h2 : 64 < vars := by omega
      go_enter Tryz.func84, Tryz.ntmps84
      go_wp2
      refine bodyPost_ret (results_rowP rfl _ _ (w.heap.size) _ #[.int .i64 0, .slice none 0 0] (0, 0) _ rfl hX Tryz.underlying42 rfl (by kernel_rfl)) rfl ?_
      exact PolyOut.bad _ _ _ hb0
  case neg =>
    have h1 : ¬ vars < 0 := by omega
    have h2 : ¬ 64 < vars := by omega
    have HN := hide h.len
    have HLL := hide hll
    have HV := hide hV
    have HL := hide hL
    have HE := hide hE
    have HNV := hide hv
    obtain ⟨Q, hQ⟩ : ∃ Q, rightL vars ts = Q := ⟨_, rfl⟩
    have HQ0 := hide hQ
    have HQ : Hid (rightL vars (ts.drop 0) = Q) := hQ
    have HP0 : Hid (rightL vars (ts.take 0) = true) := rfl
    have hat := h.at_.belowN hb0
    have hh := Heap_calls vars.toNat vars (w.alloc (.cells #[.int .i64 0, .slice none 0 0] 42))
    obtain ⟨g, hg⟩ : ∃ g, (w.alloc (.cells #[.int .i64 0, .slice none 0 0] 42)).heap.size = g := ⟨_, rfl⟩
    rw [hg] at hh
    have HH := hide hh
    have hgw : w.heap.size < g := by rw [← hg, World.size_alloc]; omega
    have HG := hide hg
    clear hE hV hL hll hv hQ hh hg
    go_enter Tryz.func84, Tryz.ntmps84
    go_wp2_with (go_at_call 73; go_must ((with_reducible refine (HH.out).mono ?_); rintro v w1 ⟨rfl, hH1, hb1'⟩; have hb1 := HG.out ▸ hb1'; have hB1 := hb0.trans (hb1.mono hb0.size); have hX1 := hX.belowN hb1; have hat1 := hat.belowN hb1; have hz1 := hH1.lt))
    clear HH hb1' hX
    go_loopw [24] (fun iv wr => ∃ k : Nat, iv = .int .i64 k ∧ k ≤ n ∧ Hid (rightL vars (ts.drop k) = Q) ∧ Hid (rightL vars (ts.take k) = true) ∧ HeapT wr g vars vars.toNat (ts.take k) ∧ Below g w1 wr) (fun iv _ => n - (intOf iv).toNat)
    case atStart => exact ⟨0, rfl, by omega, HQ.out, HP0.out, hH1, Below.refl _ _⟩
    case round =>
      obtain ⟨k, rfl, hk, hQk, hPk, hH, hbr⟩ := hrel
      have hbX := hb1.trans (hbr.mono (show (w.alloc (.cells #[.int .i64 0, .slice none 0 0] 42)).heap.size ≤ g by rw [HG.out]; exact Nat.le_refl _))
      have hzr := hH.lt
      have hXr := hX1.below hbr hgw
      have hBr := hB1.trans (hbr.mono (Nat.le_of_lt hgw) |>.mono (Nat.le_refl _))
      obtain ⟨x0, x1, x2, x3⟩ := hXr.c2
      by_cases hlt : k < n
      · obtain ⟨b1, off1, t, ea, en, ec, rfl, ht, t0, t1, hrow, hfar⟩ := hat.getF hbX (k := k) (by rw [← HN.out]; exact hlt)
        have hQ2 := hQk.out
        rw [rightL_step ht.out] at hQ2
        have hk0 : (0 : Int) ≤ (k : Int) := by omega
        have hk1 : (k : Int) < (n : Int) := by omega
        have hen : en = t.2.length := hrow.out.2.1
        have hen6 : en ≤ 1000000 := by rw [hen]; exact HLL.out t (List.mem_of_getElem? ht.out)
        have hbx := below_box wr (.cells #[.int .u64 (t.1.toNat : Int), .slice ea en ec] 92)
        obtain ⟨r0, r1, r2, r3⟩ := (Blk.new wr 92 #[.int .u64 (t.1.toNat : Int), .slice ea en ec]).c2
        obtain ⟨R, hR⟩ : ∃ R, rightT vars t.2 = R := ⟨_, rfl⟩
        have hea := hrow.out.2.2.2.2.belowN hbx
        have HR := hide (PRight_calls vars ea en ec t.2 hen _ hea hen6 R hR)
        rw [hR] at hQ2
        obtain ⟨z0, z1, z2, z3⟩ := (hXr.belowN hbx).c2
        cases R with
        | false =>
          have hQF : Q = false := by rw [← hQ2]; rfl
          subst hQF
          obtain ⟨q1, q2, q3⟩ := mk_wrong HNV.out HQ0.out
          have hV := HV.out; have hL := HL.out; have hE := HE.out
          rw [q1] at hE
          rw [q2] at hV
          rw [q3] at hL
          subst hE hV hL
          have hF6 := ((hXr.belowN hbx).set_ 0 (.int .i64 0)).set_ 1 (.slice none 0 0)
          clear hQ2 hR ht hen q1 q2 q3
          go_wp2_with (go_at_call 99; go_must ((with_reducible refine (HR.out).mono ?_); rintro v w5 ⟨rfl, rfl⟩))
          refine bodyPost_ret (results_rowP rfl _ _ (w.heap.size) _ #[.int .i64 0, .slice none 0 0] (0, 0) _ rfl hF6 Tryz.underlying42 rfl (by kernel_rfl)) rfl ?_
          have hb4 := hBr.trans (hbx.mono hBr.size)
          exact PolyOut.bad _ _ _ ((hb4.setCell (p := ⟨w.heap.size, 0, none⟩) (Nat.le_refl _) (.int .i64 0)).setCell (p := ⟨w.heap.size, 1, none⟩) (Nat.le_refl _) (.slice none 0 0))
        | true =>
          rw [Bool.true_and] at hQ2
          have HQ2 := hide hQ2
          have HTK := hide (show ts.take (k + 1) = ts.take k ++ [t] by rw [List.take_add_one, ht.out]; rfl)
          have HP2 : Hid (rightL vars (ts.take (k + 1)) = true) := by
            show _ = true
            rw [HTK.out]
            have := hPk.out
            unfold rightL at this ⊢
            rw [List.all_append, this]; simp [hR]
          have hlen := rightT_len hR
          have HPT := hide (Put_calls (wr.alloc (.cells #[.int .u64 (t.1.toNat : Int), .slice ea en ec] 92)) g vars vars.toNat (ts.take k) (hH.belowN hbx) (by rw [List.length_take]; omega) t ea en ec hen (by omega) (by omega) (rightT_in hR) hea)
          clear hQ2 hR ht hen hlen
          go_wp2_with (first
            | (go_at_call 99; go_must ((with_reducible refine (HR.out).mono ?_); rintro v w5 ⟨rfl, rfl⟩))
            | (go_at_call 117; go_must ((with_reducible refine (HPT.out).mono ?_); rintro v w6 ⟨rfl, hH6, hg6⟩)))
          go_roundw
          case rel => exact ⟨k + 1, by go_num, by omega, HQ2.out, HP2.out, by rw [HTK.out]; exact hH6, (hbr.alloc (by omega) _).grown hg6 (by rw [World.size_alloc]; omega) (fun j hj => by cases hj; omega)⟩
          case measure => simp [intOf]; omega
      · obtain rfl : k = n := by omega
        have hP2 := hPk.out
        rw [List.take_of_length_le (by rw [← HN.out]; exact Nat.le_refl _)] at hP2 hH
        obtain ⟨q1, q2, q3⟩ := mk_ok HNV.out hP2
        have HA := hide (All_calls wr g vars vars.toNat ts hH (by rw [← HN.out]; exact hl) (LenT.of_right (List.all_eq_true.1 hP2)) (rightL_in hP2) (by omega) V L E (by rw [← q2, HV.out]) (by rw [← q3, HL.out]) (by rw [← q1, HE.out]))
        clear hP2 q1 q2 q3
        go_wp2_with (go_at_call 119; go_must ((with_reducible refine (HA.out).mono ?_); rintro v w6 ⟨a6, n6, c6, rfl, hT6, hb6⟩; have hX6 := hXr.belowN hb6; obtain ⟨y0, y1, y2, y3⟩ := hX6.c2))
        have hF6 := (hX6.set_ 0 (.int .i64 V)).set_ 1 (.slice a6 n6 c6)
        refine bodyPost_ret (results_rowP rfl _ _ (w.heap.size) _ #[.int .i64 V, .slice a6 n6 c6] (0, 0) _ rfl hF6 Tryz.underlying42 rfl (by kernel_rfl)) rfl ?_
        exact PolyOut.stored (hBr.trans (hb6.mono hBr.size)) hT6 (Nat.le_refl _) hXr.lt hBr.size
end Go.Proofs.YtcamcnahkdiefaaGreat

/- Const and Var of both sides. -/
namespace Go.Proofs.YtcamcnahkdiefaaGreat
set_option linter.unusedVariables false
set_option linter.unusedSimpArgs false
open Go.RowKit
/-- one term in a box -/
theorem TOut.one {w : World} {g : Nat} {t : Tm} {ea : Option Addr} {en ec : Nat} (hb : Blk w g 92 #[.int .u64 (t.1.toNat : Int), .slice ea en ec]) (hr : TmH.of w ⟨t.1, ea, en, ec⟩ t) : TOut (fun _ => True) w (some ⟨g, 0, none⟩) 1 1 [t] :=
  ⟨rfl, Nat.le_refl _, by decide, AtT.any ⟨[⟨t.1, ea, en, ec⟩], At.ofBlk hb [(⟨t.1, ea, en, ec⟩ : TmH)] rfl, rfl, fun i h s e1 e2 => by
    have hi : i = 0 := by have := (List.getElem?_eq_some_iff.1 e1).1; simp at this; exact this
    subst hi
    simp at e1 e2
    subst e1 e2
    exact hr⟩⟩
theorem TOut.one_ {w : World} {g : Nat} {t : Tm} {ea : Option Addr} {en : Nat} (hb : Blk w g 92 #[.int .u64 (t.1.toNat : Int), .slice ea en en]) (hn : en = t.2.length) (h6 : en ≤ 1000000) (hat : At w ea t.2) : TOut (fun _ => True) w (some ⟨g, 0, none⟩) 1 1 [t] :=
  TOut.one hb ⟨rfl, hn, Nat.le_refl _, by show en ≤ _; omega, hat⟩
def constT (vars : Int) (c : UInt64) : List Tm := [(c, List.replicate vars.toNat 0)]
def varT (vars i : Int) : List Tm := [(1, (List.replicate vars.toNat (0 : Int)).set i.toNat 1)]
def varBad (vars i : Int) : Prop := vars < 0 ∨ 64 < vars ∨ i < 0 ∨ vars ≤ i
instance (vars i : Int) : Decidable (varBad vars i) := by unfold varBad; infer_instance
def varE (vars i : Int) : Int := if varBad vars i then 2 else mkE vars (varT vars i)
def varL (vars i : Int) : List Tm := if varBad vars i then [] else mkL vars (varT vars i)
def varV (vars i : Int) : Int := if varBad vars i then 0 else mkV vars (varT vars i)
set_option maxRecDepth 100000 in
set_option maxHeartbeats 3200000 in
theorem PConst_good (vn : Nat) (h64 : vn ≤ 64) (c : UInt64) (w : World) (V : Int) (L : List Tm) (E : Int) (hV : mkV (vn : Int) (constT (vn : Int) c) = V) (hL : mkL (vn : Int) (constT (vn : Int) c) = L) (hE : mkE (vn : Int) (constT (vn : Int) c) = E) :
    Calls Tryz.prog 111 #[.int .i64 (vn : Int), .int .u64 (c.toNat : Int)] w (PolyOut V L E w) := by
  have hb0 := below_box w (.cells #[.int .i64 0, .slice none 0 0] 42)
  have hX := Blk.new w 42 #[.int .i64 0, .slice none 0 0]
  have HZZ : Hid ((w.alloc (.cells #[.int .i64 0, .slice none 0 0] 42)).heap.size = w.heap.size + 1) := World.size_alloc _ _
  have h1 : ¬ (vn : Int) < 0 := by omega
  have h2 : ¬ 64 < (vn : Int) := by omega
  have h3 : (0 : Int) ≤ (vn : Int) := by omega
  have h4 : (vn : Int) ≤ 64 := by omega
  have h5 : min (vn : Int) 64 = (vn : Int) := by omega
  have hR : (List.replicate (vn : Int).toNat (0 : Int)).length = vn := by simp
  obtain ⟨t, ht1, ht2⟩ : ∃ t : Tm, c = t.1 ∧ t.2 = List.replicate (vn : Int).toNat 0 := ⟨(c, List.replicate (vn : Int).toNat 0), rfl, rfl⟩
  have hcT : constT (vn : Int) c = [t] := by unfold constT; rw [← ht2, ht1]
  rw [hcT] at hV hL hE
  subst ht1
  have HT := hide ht2
  have HMK := hide (fun (W : World) (g : Nat) (k : TOut (fun _ => True) W (some ⟨g, 0, none⟩) 1 1 [t]) => PMake_calls (fun _ => True) (vn : Int) (some ⟨g, 0, none⟩) 1 1 [t] W k (by decide) (fun s hs => by rw [List.mem_singleton.1 hs, HT.out, hR]; omega) V L E hV hL hE)
  have hlen : t.2.length = vn := by rw [ht2, hR]
  have HLN := hide hlen
  rw [Int.toNat_natCast] at HT
  clear hcT ht2 hlen hR hV hL hE
  go_enter Tryz.func111, Tryz.ntmps111
  go_wp2_with (first
    | (at_make; go_must (refine wpList_mk tyI03 (B := (w.alloc (.cells #[.int .i64 0, .slice none 0 0] 42)).heap.size) (n := vn) rfl rfl rfl rfl rfl rfl (Nat.le_refl _) (by omega) ?_; intro w3 hown3 hg3; rw [HZZ.out] at hown3; have hb3 := below_of_grown hg3; have hB3 := hb0.trans (hb3.mono hb0.size); have hX3 := hX.belowN hb3; have hz3 := hb3.size; have hbx := below_box w3 (.cells #[.int .u64 (t.1.toNat : Int), .slice (some ⟨w.heap.size + 1, 0, none⟩) vn vn] 92); have hB4 := hB3.trans (hbx.mono hB3.size); have hX4 := hX3.belowN hbx))
    | (go_at_call 84; go_must ((refine (HMK.out _ _ (TOut.one_ (Blk.new w3 _ #[.int .u64 (t.1.toNat : Int), .slice _ vn vn]) HLN.out.symm (by omega) (by rw [HT.out]; exact (hown3.alloc _).at_))).mono ?_); rintro v w5 ⟨a5, n5, c5, rfl, hT5, hb5⟩; have hB5 := hB4.trans (hb5.mono hB4.size); have hX5 := hX4.belowN hb5; obtain ⟨x0, x1, x2, x3⟩ := hX5.c2)))
  have hF6 := (hX5.set_ 0 (.int .i64 V)).set_ 1 (.slice a5 n5 c5)
  refine bodyPost_ret (results_rowP rfl _ _ (w.heap.size) _ #[.int .i64 V, .slice a5 n5 c5] (0, 0) _ rfl hF6 Tryz.underlying42 rfl (by kernel_rfl)) rfl ?_
  exact PolyOut.stored hB5 hT5 (Nat.le_refl _) (by rw [World.size_alloc] at hz3; rw [World.size_alloc]; omega) (by rw [World.size_alloc] at hz3; rw [World.size_alloc]; omega)
set_option maxRecDepth 100000 in
set_option maxHeartbeats 3200000 in
theorem PVar_calls (vars i : Int) (w : World) (V : Int) (L : List Tm) (E : Int) (hV : varV vars i = V) (hL : varL vars i = L) (hE : varE vars i = E) :
    Calls Tryz.prog 41 #[.int .i64 vars, .int .i64 i] w (PolyOut V L E w) := by
  have hb0 := below_box w (.cells #[.int .i64 0, .slice none 0 0] 42)
  have hX := Blk.new w 42 #[.int .i64 0, .slice none 0 0]
  have HZZ : Hid ((w.alloc (.cells #[.int .i64 0, .slice none 0 0] 42)).heap.size = w.heap.size + 1) := World.size_alloc _ _
  unfold varV at hV
  unfold varL at hL
  unfold varE at hE
  by_cases hv : varBad vars i
  case pos =>
    rw [if_pos hv] at hV hL hE
    subst hV hL hE
    have fin : ∀ (a : Act), a.tmps.getD 4 undef = .pointer (some ⟨w.heap.size, 0, none⟩) → True := fun _ _ => trivial
    unfold varBad at hv
    by_cases h1 : vars < 0
    · clear hv fin
      go_enter Tryz.func41, Tryz.ntmps41
      go_wp2
      refine bodyPost_ret (results_rowP rfl _ _ (w.heap.size) _ #[.int .i64 0, .slice none 0 0] (0, 0) _ rfl hX Tryz.underlying42 rfl (by kernel_rfl)) rfl ?_
      exact PolyOut.bad _ _ _ hb0
    · by_cases h2 : 64 < vars
      · clear hv fin
        go_enter Tryz.func41, Tryz.ntmps41
        go_wp2
        refine bodyPost_ret (results_rowP rfl _ _ (w.heap.size) _ #[.int .i64 0, .slice none 0 0] (0, 0) _ rfl hX Tryz.underlying42 rfl (by kernel_rfl)) rfl ?_
        exact PolyOut.bad _ _ _ hb0
      · by_cases h3 : i < 0
        · clear hv fin
          go_enter Tryz.func41, Tryz.ntmps41
          go_wp2
          refine bodyPost_ret (results_rowP rfl _ _ (w.heap.size) _ #[.int .i64 0, .slice none 0 0] (0, 0) _ rfl hX Tryz.underlying42 rfl (by kernel_rfl)) rfl ?_
          exact PolyOut.bad _ _ _ hb0
        · have h4 : vars ≤ i := by omega
          clear hv fin
          go_enter Tryz.func41, Tryz.ntmps41
          go_wp2
          refine bodyPost_ret (results_rowP rfl _ _ (w.heap.size) _ #[.int .i64 0, .slice none 0 0] (0, 0) _ rfl hX Tryz.underlying42 rfl (by kernel_rfl)) rfl ?_
          exact PolyOut.bad _ _ _ hb0
  case neg =>
    rw [if_neg hv] at hV hL hE
    have hv' : 0 ≤ vars ∧ vars ≤ 64 ∧ 0 ≤ i ∧ i < vars := by unfold varBad at hv; omega
    obtain ⟨vn, rfl⟩ : ∃ vn : Nat, vars = vn := ⟨vars.toNat, by omega⟩
    obtain ⟨k, rfl⟩ : ∃ k : Nat, i = k := ⟨i.toNat, by omega⟩
    have h1 : ¬ (vn : Int) < 0 := by omega
    have h2 : ¬ 64 < (vn : Int) := by omega
    have h3 : ¬ (k : Int) < 0 := by omega
    have h4 : ¬ (vn : Int) ≤ (k : Int) := by omega
    have h5 : (0 : Int) ≤ (k : Int) := by omega
    have h6 : (k : Int) < (vn : Int) := by omega
    have h7 : k < vn := by omega
    have h8 : vn ≤ 64 := by omega
    obtain ⟨t, ht1, ht2⟩ : ∃ t : Tm, t.1 = 1 ∧ t.2 = (List.replicate vn (0 : Int)).set k 1 := ⟨(1, (List.replicate vn (0 : Int)).set k 1), rfl, rfl⟩
    have hcT : varT (vn : Int) (k : Int) = [t] := by unfold varT; rw [Int.toNat_natCast, Int.toNat_natCast, ← ht2, ← ht1]
    rw [hcT] at hV hL hE
    have HT := hide ht2
    have hlen : t.2.length = vn := by rw [ht2]; simp
    have HLN := hide hlen
    have HMK := hide (fun (W : World) (g : Nat) (k : TOut (fun _ => True) W (some ⟨g, 0, none⟩) 1 1 [t]) => PMake_calls (fun _ => True) (vn : Int) (some ⟨g, 0, none⟩) 1 1 [t] W k (by decide) (fun s hs => by rw [List.mem_singleton.1 hs, HLN.out]; omega) V L E hV hL hE)
    have h1t : (t.1.toNat : Int) = 1 := by rw [ht1]; rfl
    have H1T := hide h1t
    clear hcT ht1 ht2 hlen hV hL hE h1t hv hv'
    go_enter Tryz.func41, Tryz.ntmps41
    go_wp2_with (first
      | (at_make; go_must (refine wpList_mk tyI03 (B := (w.alloc (.cells #[.int .i64 0, .slice none 0 0] 42)).heap.size) (n := vn) rfl rfl rfl rfl rfl rfl (Nat.le_refl _) (by omega) ?_; intro w3 hown3 hg3; rw [HZZ.out] at hown3; have hb3 := below_of_grown hg3; have hB3 := hb0.trans (hb3.mono hb0.size); have hX3 := hX.belowN hb3; have hz3 := hb3.size; have hfz := hown3.frozen k; obtain ⟨z, zu, hz1, hz2, hz4⟩ := hown3.cell1 (i := k) (by simpa using h7) rfl; have hown4 := hown3.set1 k (1 : Int) (.int .i64 1) rfl; have hBN := (fun (cs : Array Value) (T : TypeId) => (World.size_setCell w3 ⟨w.heap.size + 1, k, none⟩ (.int .i64 1)) ▸ Blk.new (w3.setCell ⟨w.heap.size + 1, k, none⟩ (.int .i64 1)) T cs); have hX4 := hX3.far (p := ⟨w.heap.size + 1, k, none⟩) (by simp) (.int .i64 1); have hB4 := hB3.setCell (p := ⟨w.heap.size + 1, k, none⟩) (by simp) (.int .i64 1)))
      | (go_at_call 84; go_must ((refine (HMK.out _ _ (TOut.one_ (by rw [H1T.out]; exact hBN _ _) HLN.out.symm (by omega) (by rw [HT.out]; exact (hown4.alloc _).at_))).mono ?_); rintro v w5 ⟨a5, n5, c5, rfl, hT5, hb5⟩; have hbx := below_box (w3.setCell ⟨w.heap.size + 1, k, none⟩ (.int .i64 1)) (.cells #[.int .u64 1, .slice (some ⟨w.heap.size + 1, 0, none⟩) vn vn] 92); have hB9 := hB4.trans (hbx.mono hB4.size); have hB5 := hB9.trans (hb5.mono hB9.size); have hX5 := (hX4.belowN hbx).belowN hb5; obtain ⟨x0, x1, x2, x3⟩ := hX5.c2)))
    have hF6 := (hX5.set_ 0 (.int .i64 V)).set_ 1 (.slice a5 n5 c5)
    refine bodyPost_ret (results_rowP rfl _ _ (w.heap.size) _ #[.int .i64 V, .slice a5 n5 c5] (0, 0) _ rfl hF6 Tryz.underlying42 rfl (by kernel_rfl)) rfl ?_
    exact PolyOut.stored hB5 hT5 (Nat.le_refl _) (hX4.belowN hbx).lt hB9.size
set_option maxRecDepth 100000 in
set_option maxHeartbeats 3200000 in
theorem PConst_low (vars : Int) (h1 : vars < 0) (h2 : max vars 0 = 0) (c : UInt64) (w : World) :
    Calls Tryz.prog 111 #[.int .i64 vars, .int .u64 (c.toNat : Int)] w (PolyOut 0 [] 2 w) := by
  have hb0 := below_box w (.cells #[.int .i64 0, .slice none 0 0] 42)
  have hX := Blk.new w 42 #[.int .i64 0, .slice none 0 0]
  have HZZ : Hid ((w.alloc (.cells #[.int .i64 0, .slice none 0 0] 42)).heap.size = w.heap.size + 1) := World.size_alloc _ _
  obtain ⟨t, ht1, ht2⟩ : ∃ t : Tm, c = t.1 ∧ t.2 = List.replicate 0 0 := ⟨(c, List.replicate 0 0), rfl, rfl⟩
  subst ht1
  have HT := hide ht2
  have hlen : t.2.length = 0 := by rw [ht2]; rfl
  have HLN := hide hlen
  obtain ⟨q1, q2, q3⟩ := mk_bad (vars := vars) (by omega) [t]
  have HMK := hide (fun (W : World) (g : Nat) (k : TOut (fun _ => True) W (some ⟨g, 0, none⟩) 1 1 [t]) => PMake_calls (fun _ => True) vars (some ⟨g, 0, none⟩) 1 1 [t] W k (by decide) (fun s hs => by rw [List.mem_singleton.1 hs, HLN.out]; omega) 0 [] 2 q2 q3 q1)
  clear ht2 hlen q1 q2 q3
  go_enter Tryz.func111, Tryz.ntmps111
  go_wp2_with (first
    | (at_make; go_must (refine wpList_mk tyI03 (B := (w.alloc (.cells #[.int .i64 0, .slice none 0 0] 42)).heap.size) (n := 0) rfl rfl rfl rfl rfl rfl (Nat.le_refl _) (by omega) ?_; intro w3 hown3 hg3; rw [HZZ.out] at hown3; have hb3 := below_of_grown hg3; have hB3 := hb0.trans (hb3.mono hb0.size); have hX3 := hX.belowN hb3; have hz3 := hb3.size; have hbx := below_box w3 (.cells #[.int .u64 (t.1.toNat : Int), .slice (some ⟨w.heap.size + 1, 0, none⟩) 0 0] 92); have hB4 := hB3.trans (hbx.mono hB3.size); have hX4 := hX3.belowN hbx))
    | (go_at_call 84; go_must ((refine (HMK.out _ _ (TOut.one_ (Blk.new w3 _ #[.int .u64 (t.1.toNat : Int), .slice _ 0 0]) HLN.out.symm (by omega) (by rw [HT.out]; exact (hown3.alloc _).at_))).mono ?_); rintro v w5 ⟨a5, n5, c5, rfl, hT5, hb5⟩; have hB5 := hB4.trans (hb5.mono hB4.size); have hX5 := hX4.belowN hb5; obtain ⟨x0, x1, x2, x3⟩ := hX5.c2)))
  have hF6 := (hX5.set_ 0 (.int .i64 0)).set_ 1 (.slice a5 n5 c5)
  refine bodyPost_ret (results_rowP rfl _ _ (w.heap.size) _ #[.int .i64 0, .slice a5 n5 c5] (0, 0) _ rfl hF6 Tryz.underlying42 rfl (by kernel_rfl)) rfl ?_
  exact PolyOut.stored hB5 hT5 (Nat.le_refl _) (by rw [World.size_alloc] at hz3; rw [World.size_alloc]; omega) (by rw [World.size_alloc] at hz3; rw [World.size_alloc]; omega)
set_option maxRecDepth 100000 in
set_option maxHeartbeats 3200000 in
theorem PConst_high (vars : Int) (h1 : 64 < vars) (h2 : max vars 0 = vars) (h3 : min vars 64 = 64) (c : UInt64) (w : World) :
    Calls Tryz.prog 111 #[.int .i64 vars, .int .u64 (c.toNat : Int)] w (PolyOut 0 [] 2 w) := by
  have hb0 := below_box w (.cells #[.int .i64 0, .slice none 0 0] 42)
  have hX := Blk.new w 42 #[.int .i64 0, .slice none 0 0]
  have HZZ : Hid ((w.alloc (.cells #[.int .i64 0, .slice none 0 0] 42)).heap.size = w.heap.size + 1) := World.size_alloc _ _
  obtain ⟨t, ht1, ht2⟩ : ∃ t : Tm, c = t.1 ∧ t.2 = List.replicate 64 0 := ⟨(c, List.replicate 64 0), rfl, rfl⟩
  subst ht1
  have HT := hide ht2
  have hlen : t.2.length = 64 := by rw [ht2]; rfl
  have HLN := hide hlen
  obtain ⟨q1, q2, q3⟩ := mk_bad (vars := vars) (by omega) [t]
  have HMK := hide (fun (W : World) (g : Nat) (k : TOut (fun _ => True) W (some ⟨g, 0, none⟩) 1 1 [t]) => PMake_calls (fun _ => True) vars (some ⟨g, 0, none⟩) 1 1 [t] W k (by decide) (fun s hs => by rw [List.mem_singleton.1 hs, HLN.out]; omega) 0 [] 2 q2 q3 q1)
  clear ht2 hlen q1 q2 q3
  go_enter Tryz.func111, Tryz.ntmps111
  go_wp2_with (first
    | (at_make; go_must (refine wpList_mk tyI03 (B := (w.alloc (.cells #[.int .i64 0, .slice none 0 0] 42)).heap.size) (n := 64) rfl rfl rfl rfl rfl rfl (Nat.le_refl _) (by omega) ?_; intro w3 hown3 hg3; rw [HZZ.out] at hown3; have hb3 := below_of_grown hg3; have hB3 := hb0.trans (hb3.mono hb0.size); have hX3 := hX.belowN hb3; have hz3 := hb3.size; have hbx := below_box w3 (.cells #[.int .u64 (t.1.toNat : Int), .slice (some ⟨w.heap.size + 1, 0, none⟩) 64 64] 92); have hB4 := hB3.trans (hbx.mono hB3.size); have hX4 := hX3.belowN hbx))
    | (go_at_call 84; go_must ((refine (HMK.out _ _ (TOut.one_ (Blk.new w3 _ #[.int .u64 (t.1.toNat : Int), .slice _ 64 64]) HLN.out.symm (by omega) (by rw [HT.out]; exact (hown3.alloc _).at_))).mono ?_); rintro v w5 ⟨a5, n5, c5, rfl, hT5, hb5⟩; have hB5 := hB4.trans (hb5.mono hB4.size); have hX5 := hX4.belowN hb5; obtain ⟨x0, x1, x2, x3⟩ := hX5.c2)))
  have hF6 := (hX5.set_ 0 (.int .i64 0)).set_ 1 (.slice a5 n5 c5)
  refine bodyPost_ret (results_rowP rfl _ _ (w.heap.size) _ #[.int .i64 0, .slice a5 n5 c5] (0, 0) _ rfl hF6 Tryz.underlying42 rfl (by kernel_rfl)) rfl ?_
  exact PolyOut.stored hB5 hT5 (Nat.le_refl _) (by rw [World.size_alloc] at hz3; rw [World.size_alloc]; omega) (by rw [World.size_alloc] at hz3; rw [World.size_alloc]; omega)
theorem PConst_calls (vars : Int) (c : UInt64) (w : World) (V : Int) (L : List Tm) (E : Int) (hV : mkV vars (constT vars c) = V) (hL : mkL vars (constT vars c) = L) (hE : mkE vars (constT vars c) = E) :
    Calls Tryz.prog 111 #[.int .i64 vars, .int .u64 (c.toNat : Int)] w (PolyOut V L E w) := by
  by_cases hv : vars < 0 ∨ 64 < vars
  case pos =>
    obtain ⟨q1, q2, q3⟩ := mk_bad hv (constT vars c)
    rw [q1] at hE
    rw [q2] at hV
    rw [q3] at hL
    subst hE hV hL
    by_cases h1 : vars < 0
    · exact PConst_low vars h1 (by omega) c w
    · exact PConst_high vars (by omega) (by omega) (by omega) c w
  case neg =>
    obtain ⟨vn, rfl⟩ : ∃ vn : Nat, vars = vn := ⟨vars.toNat, by omega⟩
    exact PConst_good vn (by omega) c w V L E hV hL hE
end Go.Proofs.YtcamcnahkdiefaaGreat

/- slices.Concat of terms; slices.Clone of powers. -/
namespace Go.Proofs.YtcamcnahkdiefaaGreat
set_option linter.unusedVariables false
set_option linter.unusedSimpArgs false
open Go.RowKit Go.Lib
set_option maxHeartbeats 1600000 in
theorem GrowT_calls (n : Nat) (hn : n ≤ 1000000000) (w : World) :
    Calls Tryz.prog 202 #[.slice none 0 0, .int .i64 n] w fun e w' => ∃ a' c', e = .returned (.slice a' 0 c') ∧ Own w' w.heap.size 92 a' c' ([] : List TmH) ∧ Below w.heap.size w w' := by
  rcases Nat.eq_zero_or_pos n with rfl | h0
  · go_enter Tryz.func202, Tryz.ntmps202
    go_wp2
    go_ret
    exact ⟨none, 0, rfl, Own.none _ _ _, Below.refl _ _⟩
  · have h1 : ¬ ((n : Int) < 0) := by omega
    have h2 : (n : Int) > 0 := by omega
    obtain ⟨i, hi, hz, hsz, hby⟩ : ∃ i, Tryz.prog.info? 92 = some i ∧ i.zero = some (.agg #[.int .u64 0, .slice none 0 0]) ∧ i.size = 2 ∧ i.bytes = 32 := by
      obtain ⟨i, q1, q2, q3, q4⟩ := info_parts (P := Tryz.prog) (show (Tryz.prog.info? 92).map (fun i => (i.zero, i.size, i.bytes)) = some (some (.agg #[.int .u64 0, .slice none 0 0]), 2, 32) by kernel_rfl)
      exact ⟨i, q1, q2, q3, q4⟩
    have hcap := grownCap_le_maxLen w n 0 92 (by simp only [maxLen]; omega)
    have hge := grownCap_ge w n 0 92
    have hrun := fun ty => run_append_nil_zeros w 40 3 ty 92 i (.agg #[.int .u64 0, .slice none 0 0]) .i64 .i64 Tryz.underlying40 Tryz.underlying3 hi hz n h0 (by omega) (by omega) (by rw [hby]; omega)
    obtain ⟨C, hC⟩ : ∃ C, grownCap w n 0 92 = C := ⟨_, rfl⟩
    rw [hC] at hcap hge hrun
    have HR := hide hrun
    clear hrun
    have hown : Own (w.drew.alloc (.cells (Builtin.zeroCells (Value.agg #[.int .u64 0, .slice none 0 0]).cells n ++ Builtin.zeroCells (Value.agg #[.int .u64 0, .slice none 0 0]).cells (C - n)) 92)) w.heap.size 92 (some ⟨w.heap.size, 0, none⟩) C ([] : List TmH) :=
      World.ownsRow_made w.drew _ C (Nat.le_refl _) hcap (by rw [Array.size_append, size_zeroCells, size_zeroCells]; show n * 2 + (C - n) * 2 = C * 2; omega)
    have hbel : Below w.heap.size w (w.drew.alloc (.cells (Builtin.zeroCells (Value.agg #[.int .u64 0, .slice none 0 0]).cells n ++ Builtin.zeroCells (Value.agg #[.int .u64 0, .slice none 0 0]).cells (C - n)) 92)) := (Below.drew (Below.refl _ _)).alloc (Nat.le_refl _) _
    have HO := hide hown
    have HB := hide hbel
    clear hown hbel hC
    go_enter Tryz.func202, Tryz.ntmps202
    go_wp2_with (at_builtin; refine Lib.wpList_append_run _ rfl _ _ _ _ rfl _ _ rfl rfl _ _ (HR.out _) ?_)
    go_ret
    exact ⟨_, C, rfl, HO.out, HB.out⟩
/-- lists of terms' headers, in memory -/
def AtHH (w : World) (a : Option Addr) (ls : List (List TmH)) : Prop := ∃ hs : List Hd, At w a hs ∧ hs.length = ls.length ∧ ∀ (i : Nat) (h : Hd) (l : List TmH), hs[i]? = some h → ls[i]? = some l → h.n = l.length ∧ h.n ≤ h.c ∧ h.c ≤ 9223372036854775807 ∧ At w h.a l
theorem AtHH.get {w wr : World} {a : Option Addr} {ls : List (List TmH)} (h : AtHH w a ls) (hb : Below w.heap.size w wr) {k : Nat} (hk : k < ls.length) :
    ∃ (b off : Nat) (ha : Option Addr) (hn hc : Nat) (l : List TmH), a = some ⟨b, off, none⟩ ∧ Hid (ls[k]? = some l) ∧ wr.cell? ⟨b, off + k, none⟩ = some (.slice ha hn hc) ∧ Hid (hn = l.length) ∧ hn ≤ hc ∧ hc ≤ 9223372036854775807 ∧ At wr ha l := by
  obtain ⟨hs, h1, h2, h3⟩ := h
  obtain ⟨b, off, y, e, hy, hc⟩ := (h1.belowN hb).get (k := k) (by omega)
  have ht : ls[k]? = some ls[k] := List.getElem?_eq_getElem hk
  obtain ⟨q1, q2, q3, q4⟩ := h3 k y _ hy.out ht
  exact ⟨b, off, y.a, y.n, y.c, ls[k], e, hide ht, by simpa [Flat.n] using hc 0 _ rfl, hide q1, q2, q3, q4.belowN hb⟩
theorem flatT_take {ls : List (List TmH)} {k : Nat} {l : List TmH} (h : ls[k]? = some l) : (ls.take (k + 1)).flatten = (ls.take k).flatten ++ l := by
  rw [List.take_add_one, h]; simp
theorem flatT_le (ls : List (List TmH)) (k : Nat) : (ls.take k).flatten.length ≤ ls.flatten.length := by
  conv => rhs; rw [← List.take_append_drop k ls]
  rw [List.flatten_append, List.length_append]; omega
set_option maxHeartbeats 1600000 in
theorem ConcatT_calls (a : Option Addr) (c n : Nat) (ls : List (List TmH)) (w : World) (hn : n = ls.length) (h : AtHH w a ls) (hl : n ≤ 1000000) (hf : ls.flatten.length ≤ 1000000000) (N : Nat) (hN : N = ls.flatten.length) :
    Calls Tryz.prog 187 #[.slice a n c] w fun e w' => ∃ a' c', e = .returned (.slice a' N c') ∧ Own w' w.heap.size 92 a' c' ls.flatten ∧ Below w.heap.size w w' := by
  have HN := hide hn
  have HF := hide hf
  have HNN := hide hN
  have HL := hide (flatT_le ls)
  clear hn hf hN
  go_enter Tryz.func187, Tryz.ntmps187
  go_wp2
  go_loopw [3, 5, 11] (fun sz _ iv wr => ∃ k m : Nat, iv = .int .i64 k ∧ k ≤ n ∧ sz = .int .i64 m ∧ Hid (m = (ls.take k).flatten.length) ∧ wr = w) (fun _ _ iv _ => n - (intOf iv).toNat)
  case atStart => exact ⟨0, 0, rfl, by omega, rfl, by show _ = _; simp, rfl⟩
  case round =>
    obtain ⟨k, m, rfl, hk, rfl, hm, rfl⟩ := hrel
    by_cases hkn : k < n
    · obtain ⟨b, off, ha, hl', hc, l, rfl, hx, x0, hln, hcap, hmx, hat⟩ := h.get (Below.refl _ _) (k := k) (by rw [← HN.out]; exact hkn)
      have HM := hide (show m + hl' = (ls.take (k + 1)).flatten.length by rw [flatT_take hx.out, List.length_append, hm.out, hln.out])
      have hle : m + hl' ≤ 1000000000 := by rw [HM.out]; exact Nat.le_trans (HL.out _) HF.out
      go_wp2
      go_roundw
      case rel => exact ⟨k + 1, m + hl', by go_num, by omega, by go_num, HM.out, trivial⟩
      case measure => simp [intOf]; omega
    · obtain rfl : n = k := by omega
      have hmN : N = m := by rw [hm.out, HN.out, List.take_length, HNN.out]
      have hNl : N ≤ 1000000000 := by rw [HNN.out]; exact HF.out
      subst hmN
      clear hm
      go_wp2_with (go_at_call 202; go_must ((with_reducible refine (GrowT_calls N hNl _).mono ?_); rintro e w1 ⟨a1, c1, rfl, hown1, hb1⟩))
      obtain ⟨w, rfl⟩ : ∃ w0 : World, w0 = wr := ⟨_, rfl⟩
      go_loopw [6, 8, 27] (fun ov _ iv wr => ∃ (k m : Nat) (ao : Option Addr) (co : Nat), iv = .int .i64 k ∧ k ≤ n ∧ ov = .slice ao m co ∧ Hid (m = (ls.take k).flatten.length) ∧ Own wr w.heap.size 92 ao co (ls.take k).flatten ∧ Below w.heap.size w wr) (fun _ _ iv _ => n - (intOf iv).toNat)
      case atStart => exact ⟨0, 0, _, _, rfl, by omega, rfl, by show _ = _; simp, by simpa using hown1, hb1⟩
      case round =>
        obtain ⟨k, m, ao, co, rfl, hk, rfl, hm, hown, hbr⟩ := hrel
        have hzr := hbr.size
        by_cases hkn : k < n
        · obtain ⟨b, off, ha, hl', hc, l, rfl, hx, x0, hln, hcap, hmx, hatr⟩ := h.get hbr (k := k) (by rw [← HN.out]; exact hkn)
          have HT := hide (flatT_take hx.out)
          have HM := hide (show m + hl' = (ls.take (k + 1)).flatten.length by rw [flatT_take hx.out, List.length_append, hm.out, hln.out])
          have hle : m + hl' ≤ 1000000000 := by rw [HM.out]; exact Nat.le_trans (HL.out _) HF.out
          go_wp2_with (at_builtin; refine wpList_pushAll tyT hown hatr rfl rfl rfl rfl hm.out hln.out hzr (by omega) (by omega) ?_; intro a3 c3 w3 hown3 hg3 _)
          go_roundw
          case rel => exact ⟨k + 1, m + hl', a3, c3, by go_num, by omega, rfl, HM.out, by rw [HT.out]; exact hown3, below_push hbr hown hg3 hzr⟩
          case measure => simp [intOf]; omega
        · obtain rfl : n = k := by omega
          have hmN : m = N := by rw [hm.out, HN.out, List.take_length, HNN.out]
          rw [HN.out, List.take_length] at hown
          subst hmN
          clear hm
          go_wp2
          go_ret
          exact ⟨ao, co, rfl, hown, hbr⟩
end Go.Proofs.YtcamcnahkdiefaaGreat

/- Sums of both sides; what no sum, product, negative or derivative is. -/
namespace Go.Proofs.YtcamcnahkdiefaaGreat
set_option linter.unusedVariables false
set_option linter.unusedSimpArgs false
open Go.RowKit
theorem three_boxes (w : World) (T1 T2 T3 : TypeId) (c1 c2 c3 : Array Value) : Blk (((w.alloc (.cells c1 T1)).alloc (.cells c2 T2)).alloc (.cells c3 T3)) w.heap.size T1 c1 ∧ Blk (((w.alloc (.cells c1 T1)).alloc (.cells c2 T2)).alloc (.cells c3 T3)) (w.heap.size + 1) T2 c2 ∧
    Blk (((w.alloc (.cells c1 T1)).alloc (.cells c2 T2)).alloc (.cells c3 T3)) (w.heap.size + 1 + 1) T3 c3 ∧ Below w.heap.size w (((w.alloc (.cells c1 T1)).alloc (.cells c2 T2)).alloc (.cells c3 T3)) ∧ (((w.alloc (.cells c1 T1)).alloc (.cells c2 T2)).alloc (.cells c3 T3)).heap.size = w.heap.size + 1 + 1 + 1 := by
  have h1 := Blk.new w T1 c1
  have h2 := Blk.new (w.alloc (.cells c1 T1)) T2 c2
  have h3 := Blk.new ((w.alloc (.cells c1 T1)).alloc (.cells c2 T2)) T3 c3
  rw [World.size_alloc] at h2
  rw [World.size_alloc, World.size_alloc] at h3
  exact ⟨(h1.alloc _).alloc _, h2.alloc _, h3, ((below_box w _).alloc (by simp) _).alloc (by simp; omega) _, by simp⟩
theorem two_boxes (w : World) (T1 T2 : TypeId) (c1 c2 : Array Value) : Blk ((w.alloc (.cells c1 T1)).alloc (.cells c2 T2)) w.heap.size T1 c1 ∧ Blk ((w.alloc (.cells c1 T1)).alloc (.cells c2 T2)) (w.heap.size + 1) T2 c2 ∧
    Below w.heap.size w ((w.alloc (.cells c1 T1)).alloc (.cells c2 T2)) ∧ ((w.alloc (.cells c1 T1)).alloc (.cells c2 T2)).heap.size = w.heap.size + 1 + 1 := by
  have h1 := Blk.new w T1 c1
  have h2 := Blk.new (w.alloc (.cells c1 T1)) T2 c2
  rw [World.size_alloc] at h2
  exact ⟨h1.alloc _, h2, (below_box w _).alloc (by simp) _, by simp⟩
def drvOk (va : Int) (A : List Tm) (i : Int) : Bool := checkP va A && decide (0 ≤ i) && decide (i < va)
/-- what comes of terms, if they may be -/
def resE (ok : Bool) (vars : Int) (l : List Tm) : Int := if ok = true then mkE vars l else 2
def resV (ok : Bool) (vars : Int) (l : List Tm) : Int := if ok = true then mkV vars l else 0
def resL (ok : Bool) (vars : Int) (l : List Tm) : List Tm := if ok = true then mkL vars l else []
theorem OkP.right {vars : Int} {n : Nat} {ts : List Tm} (h : OkP vars n ts) : rightL vars ts = true := List.all_eq_true.2 h.rt
theorem OkP.range {vars : Int} {n : Nat} {ts : List Tm} (h : OkP vars n ts) : ¬ (vars < 0 ∨ 64 < vars) := by have := h.v; have := h.n64; omega
theorem rightL_app {vars : Int} {a b : List Tm} (ha : rightL vars a = true) (hb : rightL vars b = true) : rightL vars (a ++ b) = true := by
  unfold rightL at *; rw [List.all_append, ha, hb]; rfl
end Go.Proofs.YtcamcnahkdiefaaGreat

/- Several texts of mine in one file: Pw, Px, Py, Pz, Pz2. -/
/- Sums of both sides. -/
namespace Go.Proofs.YtcamcnahkdiefaaGreat
set_option linter.unusedVariables false
set_option linter.unusedSimpArgs false
open Go.RowKit
theorem OkP.len6 {vars : Int} {n : Nat} {ts : List Tm} (h : OkP vars n ts) : ∀ t ∈ ts, t.2.length ≤ 1000000 := fun t ht => by
  have := h.can.len t ht; have := h.n64; omega
theorem AtHH.two {P Q : Nat → Prop} {w : World} {a b : Option Addr} {n c m d : Nat} {A B : List Tm} (h : TOut P w a n c A) (h' : TOut Q w b m d B) :
    ∃ l1 l2 : List TmH, (∀ W g, Below w.heap.size w W → Blk W g 40 #[.slice a n c, .slice b m d] → AtHH W (some ⟨g, 0, none⟩) [l1, l2]) ∧ n + m = [l1, l2].flatten.length ∧
      ∀ (W W' : World) (B' : Nat) (a' : Option Addr) (c' : Nat), Below w.heap.size w W' → Own W' B' 92 a' c' [l1, l2].flatten → TOut (fun _ => True) W' a' (n + m) c' (A ++ B) := by
  obtain ⟨l1, a1, a2, a3, _, _⟩ := h.at_
  obtain ⟨l2, b1, b2, b3, _, _⟩ := h'.at_
  have e1 : n = l1.length := by rw [h.len, a2]
  have e2 : m = l2.length := by rw [h'.len, b2]
  refine ⟨l1, l2, fun W g hb hB => ?_, by simp [e1, e2], fun W W' B' a' c' hb ho => ?_⟩
  · refine ⟨[⟨a, n, c⟩, ⟨b, m, d⟩], At.ofBlk hB _ rfl, rfl, fun i x l q1 q2 => ?_⟩
    match i with
    | 0 =>
      simp at q1 q2
      subst q1 q2
      exact ⟨e1, h.cap, h.max, a1.belowN hb⟩
    | 1 =>
      simp at q1 q2
      subst q1 q2
      exact ⟨e2, h'.cap, h'.max, b1.belowN hb⟩
    | i + 2 => simp at q1
  · have hf : [l1, l2].flatten = l1 ++ l2 := by simp
    rw [hf] at ho
    have hcap := ho.cap
    have hl : (l1 ++ l2).length = n + m := by rw [List.length_append, ← e1, ← e2]
    rw [hl] at hcap
    refine ⟨by rw [List.length_append, h.len, h'.len], hcap.1, Nat.le_trans hcap.2 (by decide), AtT.any ⟨l1 ++ l2, ho.at_, by simp [a2, b2], fun i x t q1 q2 => ?_⟩⟩
    by_cases hi : i < l1.length
    · rw [List.getElem?_append_left hi] at q1
      rw [List.getElem?_append_left (by omega)] at q2
      exact (a3 i x t q1 q2).belowN hb
    · rw [List.getElem?_append_right (by omega)] at q1
      rw [List.getElem?_append_right (by omega), ← a2] at q2
      exact (b3 _ x t q1 q2).belowN hb
set_option maxRecDepth 100000 in
set_option maxHeartbeats 6400000 in
theorem PAdd_good (P Q : Nat → Prop) (va : Int) (a b : Option Addr) (n c m d : Nat) (A B : List Tm) (w : World) (h : TOut P w a n c A) (h' : TOut Q w b m d B) (hQA : checkP va A = true) (hQB : checkP va B = true) (V : Int) (L : List Tm) (E : Int) (hV : mkV va (A ++ B) = V) (hL : mkL va (A ++ B) = L) (hE : mkE va (A ++ B) = E) :
    Calls Tryz.prog 160 #[.agg #[.int .i64 va, .slice a n c], .agg #[.int .i64 va, .slice b m d]] w (PolyOut V L E w) := by
  obtain ⟨hX1, hX2, hX3, hb0, hz0⟩ := three_boxes w 42 42 42 #[.int .i64 va, .slice a n c] #[.int .i64 va, .slice b m d] #[.int .i64 0, .slice none 0 0]
  obtain ⟨W0, hW0⟩ : ∃ W0, ((w.alloc (.cells #[.int .i64 va, .slice a n c] 42)).alloc (.cells #[.int .i64 va, .slice b m d] 42)).alloc (.cells #[.int .i64 0, .slice none 0 0] 42) = W0 := ⟨_, rfl⟩
  rw [hW0] at hX1 hX2 hX3 hb0 hz0
  have hokA := checkP_ok hQA
  have hokB := checkP_ok hQB
  have hn4 : n ≤ 4096 := by rw [h.len]; exact hokA.len
  have hm4 : m ≤ 4096 := by rw [h'.len]; exact hokB.len
  have HCA := hide (Check_calls va a n c A h.len W0 (h.at_.at_.belowN hb0) (by omega) hokA.len6 true hQA)
  have HCB := hide (fun (W : World) (k : Below W0.heap.size W0 W) => Check_calls va b m d B h'.len W ((h'.at_.at_.belowN hb0).belowN k) (by omega) hokB.len6 true hQB)
  obtain ⟨p0, p1, p2, p3⟩ := hX1.c2
  obtain ⟨q0, q1, q2, q3⟩ := hX2.c2
  have HW0 := hide hW0
  have e1 : (va != va) = false := by simp
  have e2 : (va == va) = true := by simp
  have i1 : w.heap.size + 1 + 1 ≠ w.heap.size := by omega
  have i2 : w.heap.size + 1 + 1 ≠ w.heap.size + 1 := by omega
  have i3 : w.heap.size ≠ w.heap.size + 1 + 1 := by omega
  have i4 : w.heap.size + 1 ≠ w.heap.size + 1 + 1 := by omega
  obtain ⟨l1, l2, t1, t2, t3⟩ := AtHH.two h h'
  have HCC := hide (fun (W : World) (g : Nat) (k : Below w.heap.size w W) (kb : Blk W g 40 #[.slice a n c, .slice b m d]) => ConcatT_calls (some ⟨g, 0, none⟩) 2 2 [l1, l2] W rfl (t1 W g k kb) (by decide) (by rw [← t2]; omega) (n + m) t2)
  have HT3 := hide t3
  have hM6 : ∀ t ∈ A ++ B, t.2.length ≤ 1000000 := fun t ht => (List.mem_append.1 ht).elim (hokA.len6 t) (hokB.len6 t)
  have HMK := hide (fun (W : World) (a3 : Option Addr) (c3 : Nat) (k : TOut (fun _ => True) W a3 (n + m) c3 (A ++ B)) => PMake_calls (fun _ => True) va a3 (n + m) c3 (A ++ B) W k (by omega) hM6 V L E hV hL hE)
  clear hQA hQB h h' hW0 hokA hokB hV hL hE hM6 t1 t2 t3
  go_enter Tryz.func160, Tryz.ntmps160
  go_wp2_with (first
    | (have hgd := hb1; go_at_call 49; go_must ((with_reducible refine (HCB.out _ hb1).mono ?_); rintro v w2 ⟨rfl, hb2⟩; have hB2 := hb1.trans (hb2.mono hb1.size); have hX5 := hX3.belowN hB2; obtain ⟨r0, r1, r2, r3⟩ := (hX1.belowN hB2).c2; obtain ⟨s0, s1, s2, s3⟩ := (hX2.belowN hB2).c2))
    | (go_at_call 49; go_must ((rw [HW0.out]); (with_reducible refine (HCA.out).mono ?_); rintro v w1 ⟨rfl, hb1⟩; obtain ⟨s0, s1, s2, s3⟩ := (hX2.belowN hb1).c2)))
  have hBz := hb0.trans (hB2.mono hb0.size)
  have hBw := Below.drew (Below.refl w2.heap.size w2)
  have hzz := hBz.size
  have hW1b : Below w2.heap.size w2 (w2.alloc (.cells #[.slice a n c, .slice b m d] 40)).drew := Below.drew (below_box w2 _)
  have hW1k : Blk (w2.alloc (.cells #[.slice a n c, .slice b m d] 40)).drew w2.heap.size 40 #[.slice a n c, .slice b m d] := Blk.new w2 _ _
  go_region_held3 (fun w' => w'.cell? ⟨w.heap.size, 0, none⟩ = some (.int .i64 va) ∧ w'.cell? ⟨w.heap.size, 1, none⟩ = some (.slice a n c) ∧ w'.cell? ⟨w.heap.size + 1, 1, none⟩ = some (.slice b m d)) (go_keep)
    (first
      | (go_at_call 187; go_must ((with_reducible refine (HCC.out _ _ (hBz.trans (hW1b.mono hzz)) hW1k).mono ?_); rintro v w3 ⟨a3, c3, rfl, hown3, hb3⟩; have hB3 := hW1b.trans (hb3.mono hW1b.size); have hT3 := HT3.out w3 w3 _ a3 c3 (hBz.trans (hB3.mono hzz)) hown3; obtain ⟨t0, t1, t2, t3⟩ := ((hX1.belowN hB2).belowN hB3).c2; obtain ⟨u0, u1, u2, u3⟩ := ((hX2.belowN hB2).belowN hB3).c2))
      | (go_at_call 84; go_must ((with_reducible refine (HMK.out _ _ _ hT3).mono ?_); rintro v w5 ⟨a5, n5, c5, rfl, hT5, hb5⟩; have hB5 := hB3.trans (hb5.mono hB3.size); have hX9 := hX5.belowN hB5; obtain ⟨x0, x1, x2, x3⟩ := hX9.c2; obtain ⟨t4, t5, t6, t7⟩ := ((hX1.belowN hB2).belowN hB5).c2; obtain ⟨u4, u5, u6, u7⟩ := ((hX2.belowN hB2).belowN hB5).c2)))
  go_wp2
  have hF6 := (hX9.set_ 0 (.int .i64 V)).set_ 1 (.slice a5 n5 c5)
  refine bodyPost_ret (results_rowP rfl _ _ (w.heap.size + 1 + 1) _ #[.int .i64 V, .slice a5 n5 c5] (0, 0) _ rfl hF6 Tryz.underlying42 rfl (by kernel_rfl)) rfl ?_
  exact PolyOut.stored (hBz.trans (hB5.mono hzz)) hT5 (by omega) (hX5.belowN hB3).lt (Nat.le_trans hzz hB3.size)
end Go.Proofs.YtcamcnahkdiefaaGreat

/- Negatives of both sides. -/
namespace Go.Proofs.YtcamcnahkdiefaaGreat
set_option linter.unusedVariables false
set_option linter.unusedSimpArgs false
open Go.RowKit
theorem AtTP.lt {P : Nat → Prop} {w : World} {b off : Nat} {ts : List Tm} (h : AtTP P w (some ⟨b, off, none⟩) ts) (hne : 0 < ts.length) : b < w.heap.size := by
  obtain ⟨hs, h1, h2, _⟩ := h
  obtain ⟨b', off', e, hb⟩ := h1.lt (by rintro rfl; simp at h2; omega)
  injection e with e
  injection e with e _
  omega
def negT (l : List Tm) : List Tm := l.map fun t => (0 - t.1, t.2)
theorem negT_take {l : List Tm} {k : Nat} {t : Tm} (h : l[k]? = some t) : (negT l).take (k + 1) = (negT l).take k ++ [(0 - t.1, t.2)] := by
  unfold negT
  rw [List.take_add_one, List.getElem?_map, h]; rfl
theorem negT_right {vars : Int} {l : List Tm} (h : rightL vars l = true) : rightL vars (negT l) = true := by
  refine List.all_eq_true.2 fun t ht => ?_
  obtain ⟨s, hs, rfl⟩ := List.mem_map.1 ht
  exact List.all_eq_true.1 h s hs
theorem negT_len (l : List Tm) : (negT l).length = l.length := by simp [negT]
theorem NegW_calls (x : UInt64) (w : World) : Calls Tryz.prog 188 #[.int .u64 (x.toNat : Int)] w fun v w' => v = .returned (.int .u64 ((0 - x).toNat : Int)) ∧ w = w' := by
  have h := u64_neg x
  go_enter Tryz.func188, Tryz.ntmps188
  go_wp2
  go_ret
  exact ⟨rfl, rfl⟩
set_option maxRecDepth 100000 in
set_option maxHeartbeats 6400000 in
theorem PNeg_good (P : Nat → Prop) (va : Int) (a : Option Addr) (n c : Nat) (A : List Tm) (w : World) (h : TOut P w a n c A) (hQ : checkP va A = true) (V : Int) (L : List Tm) (E : Int) (hV : mkV va (negT A) = V) (hL : mkL va (negT A) = L) (hE : mkE va (negT A) = E) :
    Calls Tryz.prog 161 #[.agg #[.int .i64 va, .slice a n c]] w (PolyOut V L E w) := by
  obtain ⟨hX1, hX3, hb0, hz0⟩ := two_boxes w 42 42 #[.int .i64 va, .slice a n c] #[.int .i64 0, .slice none 0 0]
  obtain ⟨W0, hW0⟩ : ∃ W0, (w.alloc (.cells #[.int .i64 va, .slice a n c] 42)).alloc (.cells #[.int .i64 0, .slice none 0 0] 42) = W0 := ⟨_, rfl⟩
  rw [hW0] at hX1 hX3 hb0 hz0
  have hok := checkP_ok hQ
  have hn4 : n ≤ 4096 := by rw [h.len]; exact hok.len
  have HCA := hide (Check_calls va a n c A h.len W0 (h.at_.at_.belowN hb0) (by omega) hok.len6 true hQ)
  obtain ⟨p0, p1, p2, p3⟩ := hX1.c2
  have HW0 := hide hW0
  have HN := hide h.len
  have hat := h.at_.belowN hb0
  have HRT := hide hok.rt
  have HOK := hide hok
  have HV := hide hV
  have HL := hide hL
  have HE := hide hE
  have HH := hide (fun W => Heap_calls va.toNat va W)
  clear hQ h hW0 hok hV hL hE
  go_enter Tryz.func161, Tryz.ntmps161
  go_wp2_with (first
    | (go_at_call 49; go_must ((rw [HW0.out]); (with_reducible refine (HCA.out).mono ?_); rintro v w1 ⟨rfl, hb1⟩; obtain ⟨r0, r1, r2, r3⟩ := (hX1.belowN hb1).c2))
    | (go_at_call 73; go_must ((with_reducible refine (HH.out _).mono ?_); rintro v w2 ⟨rfl, hH2, hb2⟩; have hB2 := hb1.trans (hb2.mono hb1.size); obtain ⟨s0, s1, s2, s3⟩ := (hX1.belowN hB2).c2)))
  obtain ⟨g, hg⟩ : ∃ g, g = w1.heap.size := ⟨_, rfl⟩
  rw [← hg] at hH2 ⊢
  have hX5 := hX3.belowN hb1
  have hgw : w.heap.size + 1 < g := by rw [hg]; exact hX5.lt
  have hBz := hb0.trans (hb1.mono hb0.size)
  have HG := hide hg
  have hat1 := hat.belowN hb1
  have hb2g : Below g w1 w2 := by rw [hg]; exact hb2
  clear hg HH HCA hb2 hB2
  go_loopw [21] (fun iv wr => ∃ k : Nat, iv = .int .i64 k ∧ k ≤ n ∧ HeapT wr g va va.toNat ((negT A).take k) ∧ Below g w1 wr) (fun iv _ => n - (intOf iv).toNat)
  case atStart => exact ⟨0, rfl, by omega, hH2, hb2g⟩
  case round =>
    obtain ⟨k, rfl, hk, hH, hbr⟩ := hrel
    have hbX : Below w1.heap.size w1 wr := hbr.mono (by rw [HG.out]; exact Nat.le_refl _)
    have hzr := hH.lt
    have hXr := hX5.belowN hbX
    have hBr := hBz.trans (hbX.mono hBz.size)
    obtain ⟨x0, x1, x2, x3⟩ := hXr.c2
    by_cases hlt : k < n
    · obtain ⟨b1, off1, t, ea, en, ec, rfl, ht, t0, t1, hrow, hfar⟩ := hat1.getF hbX (k := k) (by rw [← HN.out]; exact hlt)
      have hk0 : (0 : Int) ≤ (k : Int) := by omega
      have hk1 : (k : Int) < (n : Int) := by omega
      have hen : en = t.2.length := hrow.out.2.1
      have hrt := HRT.out t (List.mem_of_getElem? ht.out)
      have hlen := rightT_len hrt
      have hv := HOK.out.n64
      have hbx := below_box wr (.cells #[.int .u64 (t.1.toNat : Int), .slice ea en ec] 92)
      have hT := Blk.new wr 92 #[.int .u64 (t.1.toNat : Int), .slice ea en ec]
      obtain ⟨r0, r1, r2, r3⟩ := hT.c2
      have hea := hrow.out.2.2.2.2.belowN hbx
      obtain ⟨z, hz⟩ : ∃ z, 0 - t.1 = z := ⟨_, rfl⟩
      have HNW := hide (fun W => NegW_calls t.1 W)
      have HTK := hide (negT_take ht.out)
      rw [hz] at HNW HTK
      have HPT := hide (Put_calls ((wr.alloc (.cells #[.int .u64 (t.1.toNat : Int), .slice ea en ec] 92)).drew) g va va.toNat ((negT A).take k) ((hH.belowN hbx).belowN (Below.drew (Below.refl _ _))) (by rw [List.length_take]; omega) (z, t.2) ea en ec hen (by show t.2.length = _; omega) (by omega) (rightT_in hrt) hea)
      have hBw := Below.drew (Below.refl (wr.alloc (.cells #[.int .u64 (t.1.toNat : Int), .slice ea en ec] 92)).heap.size (wr.alloc (.cells #[.int .u64 (t.1.toNat : Int), .slice ea en ec] 92)))
      clear ht hen hlen hrt hz
      go_wp2
      go_region_held3 (fun w' => w'.cell? ⟨wr.heap.size, 0, none⟩ = some (.int .u64 (t.1.toNat : Int)) ∧ w'.cell? ⟨wr.heap.size, 1, none⟩ = some (.slice ea en ec)) (go_keep)
        (first
          | (go_at_call 188; go_must ((with_reducible refine (HNW.out _).mono ?_); rintro v w5 ⟨rfl, rfl⟩))
          | (go_at_call 117; go_must ((with_reducible refine (HPT.out).mono ?_); rintro v w6 ⟨rfl, hH6, hg6⟩; obtain ⟨q4, q5, q6, q7⟩ := (Blk.grown (w := (wr.alloc (.cells #[.int .u64 (t.1.toNat : Int), .slice ea en ec] 92)).drew) hT hg6 (by simp; omega)).c2)))
      go_wp2
      go_roundw
      case rel => exact ⟨k + 1, by go_num, by omega, by rw [HTK.out]; exact hH6, ((hbr.alloc (by omega) _).trans ((below_drawn _ _ 1))).grown hg6 (by simp; omega) (fun j hj => by cases hj; omega)⟩
      case measure => simp [intOf]; omega
    · obtain rfl : k = n := by omega
      have hneg : (negT A).take k = negT A := List.take_of_length_le (by rw [negT_len, ← HN.out]; exact Nat.le_refl _)
      rw [hneg] at hH
      have hP2 := negT_right HOK.out.right
      obtain ⟨q1, q2, q3⟩ := mk_ok HOK.out.range hP2
      have HA := hide (All_calls wr g va va.toNat (negT A) hH (by rw [negT_len, ← HN.out]; omega) (LenT.of_right (List.all_eq_true.1 hP2)) (rightL_in hP2) (by have := HOK.out.n64; omega) V L E (by rw [← q2, HV.out]) (by rw [← q3, HL.out]) (by rw [← q1, HE.out]))
      clear hP2 q1 q2 q3 hneg
      go_wp2_with (go_at_call 119; go_must ((with_reducible refine (HA.out).mono ?_); rintro v w6 ⟨a6, n6, c6, rfl, hT6, hb6⟩; have hX6 := hXr.belowN hb6; obtain ⟨y0, y1, y2, y3⟩ := hX6.c2))
      have hF6 := (hX6.set_ 0 (.int .i64 V)).set_ 1 (.slice a6 n6 c6)
      refine bodyPost_ret (results_rowP rfl _ _ (w.heap.size + 1) _ #[.int .i64 V, .slice a6 n6 c6] (0, 0) _ rfl hF6 Tryz.underlying42 rfl (by kernel_rfl)) rfl ?_
      exact PolyOut.stored (hBr.trans (hb6.mono hBr.size)) hT6 (by omega) hXr.lt hBr.size
end Go.Proofs.YtcamcnahkdiefaaGreat

/- Derivatives of both sides. -/
namespace Go.Proofs.YtcamcnahkdiefaaGreat
set_option linter.unusedVariables false
set_option linter.unusedSimpArgs false
open Go.RowKit
/-- a term's derivative -/
def drv1 (i : Nat) (t : Tm) : List Tm := if 0 < t.2.getD i 0 then [(t.1 * UInt64.ofNat (t.2.getD i 0).toNat, t.2.set i (t.2.getD i 0 - 1))] else []
def drvT (i : Nat) (l : List Tm) : List Tm := l.flatMap (drv1 i)
theorem drvT_take {i : Nat} {l : List Tm} {k : Nat} {t : Tm} (h : l[k]? = some t) : drvT i (l.take (k + 1)) = drvT i (l.take k) ++ drv1 i t := by
  unfold drvT
  rw [List.take_add_one, h, List.flatMap_append]; simp
theorem drv1_len (i : Nat) (t : Tm) : (drv1 i t).length ≤ 1 := by
  unfold drv1; split <;> simp
theorem drvT_len (i : Nat) (l : List Tm) : (drvT i l).length ≤ l.length := by
  induction l with
  | nil => simp [drvT]
  | cons t l ih =>
    have h1 := drv1_len i t
    have : drvT i (t :: l) = drv1 i t ++ drvT i l := rfl
    rw [this, List.length_append, List.length_cons]; omega
theorem drv1_right {vars : Int} {i : Nat} {t : Tm} (h : rightT vars t.2 = true) : ∀ s ∈ drv1 i t, rightT vars s.2 = true := by
  intro s hs
  unfold drv1 at hs
  split at hs
  · rename_i h0
    simp at hs
    subst hs
    have hl := rightT_len h
    have hi := rightT_in h
    refine rightT_mk (by rw [List.length_set]; exact hl) fun x hx => ?_
    rcases List.mem_or_eq_of_mem_set hx with hx | hx
    · exact hi x hx
    · have hlt : i < t.2.length := by
        refine Decidable.by_contra fun hn => ?_
        have h1 : t.2.getD i 0 = 0 := by rw [List.getD_eq_getElem?_getD, List.getElem?_eq_none (by omega)]; rfl
        have h0' : 0 < t.2.getD i 0 := h0
        omega
      have hm : t.2.getD i 0 ∈ t.2 := by
        rw [List.getD_eq_getElem?_getD, List.getElem?_eq_getElem hlt]; exact List.getElem_mem hlt
      have h9 := hi _ hm
      have e9 : t.2.getD i 0 = t.2[i]?.getD 0 := List.getD_eq_getElem?_getD
      omega
  · simp at hs
theorem drvT_right {vars : Int} {i : Nat} {l : List Tm} (h : rightL vars l = true) : rightL vars (drvT i l) = true := by
  refine List.all_eq_true.2 fun s hs => ?_
  obtain ⟨t, ht, hs⟩ := List.mem_flatMap.1 hs
  exact drv1_right (List.all_eq_true.1 h t ht) s hs
theorem drv1_pos {i : Nat} {t : Tm} {q : UInt64} (h : t.2[i]? = some (q.toNat : Int)) (h0 : 0 < q.toNat) : drv1 i t = [(t.1 * q, t.2.set i ((q.toNat : Int) - 1))] := by
  have e : t.2.getD i 0 = (q.toNat : Int) := by rw [List.getD_eq_getElem?_getD, h]; rfl
  unfold drv1
  rw [e, if_pos (by omega), Int.toNat_natCast, UInt64.ofNat_toNat]
theorem drv1_zero {i : Nat} {t : Tm} {q : UInt64} (h : t.2[i]? = some (q.toNat : Int)) (h0 : ¬ 0 < q.toNat) : drv1 i t = [] := by
  have e : t.2.getD i 0 = (q.toNat : Int) := by rw [List.getD_eq_getElem?_getD, h]; rfl
  unfold drv1
  rw [e, if_neg (by omega)]
set_option maxRecDepth 100000 in
set_option maxHeartbeats 3200000 in
theorem PDrv_bad (P : Nat → Prop) (va i : Int) (a : Option Addr) (n c : Nat) (A : List Tm) (w : World) (h : TOut P w a n c A) (hl : n ≤ 1000000) (hll : ∀ t ∈ A, t.2.length ≤ 1000000) (hok : drvOk va A i = false) :
    Calls Tryz.prog 35 #[.agg #[.int .i64 va, .slice a n c], .int .i64 i] w (PolyOut 0 [] 2 w) := by
  obtain ⟨hX1, hX3, hb0, hz0⟩ := two_boxes w 42 42 #[.int .i64 va, .slice a n c] #[.int .i64 0, .slice none 0 0]
  obtain ⟨W0, hW0⟩ : ∃ W0, (w.alloc (.cells #[.int .i64 va, .slice a n c] 42)).alloc (.cells #[.int .i64 0, .slice none 0 0] 42) = W0 := ⟨_, rfl⟩
  rw [hW0] at hX1 hX3 hb0 hz0
  obtain ⟨Q, hQ⟩ : ∃ Q, checkP va A = Q := ⟨_, rfl⟩
  unfold drvOk at hok
  rw [hQ] at hok
  have HCA := hide (Check_calls va a n c A h.len W0 (h.at_.at_.belowN hb0) hl hll Q hQ)
  obtain ⟨p0, p1, p2, p3⟩ := hX1.c2
  have HW0 := hide hW0
  clear hQ h hll hW0
  cases Q with
  | false =>
    clear hok
    go_enter Tryz.func35, Tryz.ntmps35
    go_wp2_with (go_at_call 49; go_must ((rw [HW0.out]); (with_reducible refine (HCA.out).mono ?_); rintro v w1 ⟨rfl, hb1⟩; have hX5 := hX3.belowN hb1; obtain ⟨x0, x1, x2, x3⟩ := hX5.c2))
    have hF6 := (hX5.set_ 0 (.int .i64 0)).set_ 1 (.slice none 0 0)
    refine bodyPost_ret (results_rowP rfl _ _ (w.heap.size + 1) _ #[.int .i64 0, .slice none 0 0] (0, 0) _ rfl hF6 Tryz.underlying42 rfl (by kernel_rfl)) rfl ?_
    have hB5 := hb0.trans (hb1.mono hb0.size)
    exact PolyOut.bad _ _ _ ((hB5.setCell (p := ⟨w.heap.size + 1, 0, none⟩) (by show _ ≤ w.heap.size + 1; omega) (.int .i64 0)).setCell (p := ⟨w.heap.size + 1, 1, none⟩) (by show _ ≤ w.heap.size + 1; omega) (.slice none 0 0))
  | true =>
    have hbad : i < 0 ∨ va ≤ i := by
      simp at hok
      by_cases h1 : i < 0
      · exact .inl h1
      · exact .inr (hok (by omega))
    clear hok
    by_cases h1 : i < 0
    · clear hbad
      go_enter Tryz.func35, Tryz.ntmps35
      go_wp2_with (go_at_call 49; go_must ((rw [HW0.out]); (with_reducible refine (HCA.out).mono ?_); rintro v w1 ⟨rfl, hb1⟩; have hX5 := hX3.belowN hb1; obtain ⟨x0, x1, x2, x3⟩ := hX5.c2))
      have hF6 := (hX5.set_ 0 (.int .i64 0)).set_ 1 (.slice none 0 0)
      refine bodyPost_ret (results_rowP rfl _ _ (w.heap.size + 1) _ #[.int .i64 0, .slice none 0 0] (0, 0) _ rfl hF6 Tryz.underlying42 rfl (by kernel_rfl)) rfl ?_
      have hB5 := hb0.trans (hb1.mono hb0.size)
      exact PolyOut.bad _ _ _ ((hB5.setCell (p := ⟨w.heap.size + 1, 0, none⟩) (by show _ ≤ w.heap.size + 1; omega) (.int .i64 0)).setCell (p := ⟨w.heap.size + 1, 1, none⟩) (by show _ ≤ w.heap.size + 1; omega) (.slice none 0 0))
    · have h2 : va ≤ i := by omega
      clear hbad
      go_enter Tryz.func35, Tryz.ntmps35
      go_wp2_with (go_at_call 49; go_must ((rw [HW0.out]); (with_reducible refine (HCA.out).mono ?_); rintro v w1 ⟨rfl, hb1⟩; have hX5 := hX3.belowN hb1; obtain ⟨x0, x1, x2, x3⟩ := hX5.c2; obtain ⟨r0, r1, r2, r3⟩ := (hX1.belowN hb1).c2))
      have hF6 := (hX5.set_ 0 (.int .i64 0)).set_ 1 (.slice none 0 0)
      refine bodyPost_ret (results_rowP rfl _ _ (w.heap.size + 1) _ #[.int .i64 0, .slice none 0 0] (0, 0) _ rfl hF6 Tryz.underlying42 rfl (by kernel_rfl)) rfl ?_
      have hB5 := hb0.trans (hb1.mono hb0.size)
      exact PolyOut.bad _ _ _ ((hB5.setCell (p := ⟨w.heap.size + 1, 0, none⟩) (by show _ ≤ w.heap.size + 1; omega) (.int .i64 0)).setCell (p := ⟨w.heap.size + 1, 1, none⟩) (by show _ ≤ w.heap.size + 1; omega) (.slice none 0 0))
set_option maxRecDepth 100000 in
set_option maxHeartbeats 6400000 in
theorem PDrv_good (P : Nat → Prop) (va : Int) (j : Nat) (hj : (j : Int) < va) (a : Option Addr) (n c : Nat) (A : List Tm) (w : World) (h : TOut P w a n c A) (hQ : checkP va A = true) (V : Int) (L : List Tm) (E : Int) (hV : mkV va (drvT j A) = V) (hL : mkL va (drvT j A) = L) (hE : mkE va (drvT j A) = E) :
    Calls Tryz.prog 35 #[.agg #[.int .i64 va, .slice a n c], .int .i64 (j : Int)] w (PolyOut V L E w) := by
  obtain ⟨hX1, hX3, hb0, hz0⟩ := two_boxes w 42 42 #[.int .i64 va, .slice a n c] #[.int .i64 0, .slice none 0 0]
  obtain ⟨W0, hW0⟩ : ∃ W0, (w.alloc (.cells #[.int .i64 va, .slice a n c] 42)).alloc (.cells #[.int .i64 0, .slice none 0 0] 42) = W0 := ⟨_, rfl⟩
  rw [hW0] at hX1 hX3 hb0 hz0
  have hok := checkP_ok hQ
  have hn4 : n ≤ 4096 := by rw [h.len]; exact hok.len
  have HCA := hide (Check_calls va a n c A h.len W0 (h.at_.at_.belowN hb0) (by omega) hok.len6 true hQ)
  obtain ⟨p0, p1, p2, p3⟩ := hX1.c2
  have HW0 := hide hW0
  have HN := hide h.len
  have hat := h.at_.belowN hb0
  have HRT := hide hok.rt
  have HOK := hide hok
  have HV := hide hV
  have HL := hide hL
  have HE := hide hE
  have HH := hide (fun W => Heap_calls va.toNat va W)
  have j0 : ¬ (j : Int) < 0 := by omega
  have j1 : ¬ va ≤ (j : Int) := by omega
  have j2 : (0 : Int) ≤ (j : Int) := by omega
  clear hQ h hW0 hok hV hL hE
  go_enter Tryz.func35, Tryz.ntmps35
  go_wp2_with (first
    | (go_at_call 49; go_must ((rw [HW0.out]); (with_reducible refine (HCA.out).mono ?_); rintro v w1 ⟨rfl, hb1⟩; obtain ⟨r0, r1, r2, r3⟩ := (hX1.belowN hb1).c2))
    | (go_at_call 73; go_must ((with_reducible refine (HH.out _).mono ?_); rintro v w2 ⟨rfl, hH2, hb2⟩; have hB2 := hb1.trans (hb2.mono hb1.size); obtain ⟨s0, s1, s2, s3⟩ := (hX1.belowN hB2).c2)))
  obtain ⟨g, hg⟩ : ∃ g, g = w1.heap.size := ⟨_, rfl⟩
  rw [← hg] at hH2 ⊢
  have hX5 := hX3.belowN hb1
  have hgw : w.heap.size + 1 < g := by rw [hg]; exact hX5.lt
  have hBz := hb0.trans (hb1.mono hb0.size)
  have HG := hide hg
  have hat1 := hat.belowN hb1
  have hb2g : Below g w1 w2 := by rw [hg]; exact hb2
  clear hg HH HCA hb2 hB2
  go_loopw [35] (fun iv wr => ∃ k : Nat, iv = .int .i64 k ∧ k ≤ n ∧ HeapT wr g va va.toNat (drvT j (A.take k)) ∧ Below g w1 wr) (fun iv _ => n - (intOf iv).toNat)
  case atStart => exact ⟨0, rfl, by omega, hH2, hb2g⟩
  case round =>
    obtain ⟨k, rfl, hk, hH, hbr⟩ := hrel
    have hbX : Below w1.heap.size w1 wr := hbr.mono (by rw [HG.out]; exact Nat.le_refl _)
    have hzr := hH.lt
    have hXr := hX5.belowN hbX
    have hBr := hBz.trans (hbX.mono hBz.size)
    obtain ⟨x0, x1, x2, x3⟩ := hXr.c2
    by_cases hlt : k < n
    · obtain ⟨b1, off1, t, ea, en, ec, rfl, ht, t0, t1, hrow, hfar⟩ := hat1.getF hbX (k := k) (by rw [← HN.out]; exact hlt)
      have hk0 : (0 : Int) ≤ (k : Int) := by omega
      have hk1 : (k : Int) < (n : Int) := by omega
      have hen : en = t.2.length := hrow.out.2.1
      have hrt := HRT.out t (List.mem_of_getElem? ht.out)
      have hlen := rightT_len hrt
      have hv := HOK.out.n64
      have hbx := below_box wr (.cells #[.int .u64 (t.1.toNat : Int), .slice ea en ec] 92)
      have hT := Blk.new wr 92 #[.int .u64 (t.1.toNat : Int), .slice ea en ec]
      obtain ⟨r0, r1, r2, r3⟩ := hT.c2
      have hea := hrow.out.2.2.2.2.belowN hbx
      have hjl : j < t.2.length := by omega
      obtain ⟨b2, off2, p, hea2, hp, p0⟩ := hea.getI (Below.refl _ _) (k := j) hjl
      subst hea2
      have hpr := rightT_in hrt p (List.mem_of_getElem? hp.out)
      obtain ⟨q, rfl⟩ : ∃ q : UInt64, p = (q.toNat : Int) := ⟨UInt64.ofNat p.toNat, by rw [UInt64.toNat_ofNat']; omega⟩
      have HTK := hide (drvT_take (i := j) ht.out)
      have hjn : (j : Int) < (en : Int) := by omega
      by_cases hp0 : 0 < q.toNat
      case neg =>
        rw [drv1_zero hp.out hp0, List.append_nil] at HTK
        have e1 : ¬ (0 : Int) < (q.toNat : Int) := by omega
        clear ht hen hlen hrt hp hp0
        go_wp2
        go_roundw
        case rel => exact ⟨k + 1, by go_num, by omega, by rw [HTK.out]; exact hH.belowN hbx, hbr.alloc (by omega) _⟩
        case measure => simp [intOf]; omega
      case pos =>
        rw [drv1_pos hp.out hp0] at HTK
        have e1 : (0 : Int) < (q.toNat : Int) := by omega
        have HCL := hide (CloneI_calls (some ⟨b2, off2, none⟩) en ec t.2 _ hen hea (by omega))
        have hdl : (drvT j (A.take k)).length ≤ 4096 := by
          have h1 := drvT_len j (A.take k)
          rw [List.length_take] at h1
          omega
        have hrt2 := drv1_right (i := j) hrt _ (by rw [drv1_pos hp.out hp0]; exact List.mem_singleton.2 rfl)
        have HMU := hide (u64_mul t.1 q)
        have hcv : IntKind.u64.wrap (q.toNat : Int) = (q.toNat : Int) := IntWalk.u64_in _ (by omega)
        have HPT := hide (fun (W : World) (ae : Option Addr) (ce : Nat) (k1 : HeapT W g va va.toNat (drvT j (A.take k))) (k2 : At W ae (t.2.set j ((q.toNat : Int) - 1))) => Put_calls W g va va.toNat (drvT j (A.take k)) k1 (by omega) (t.1 * q, t.2.set j ((q.toNat : Int) - 1)) ae en ce (by simpa using hen) (by simp; omega) (by omega) (rightT_in hrt2) k2)
        have hq9 : q.toNat ≤ 65535 := by omega
        have hjl2 : j < t.2.length := hjl
        have HP := hide hp.out
        have hHx := hH.belowN hbx
        clear ht hen hlen hrt hp hp0 hrt2 hpr
        go_wp2_with (first
          | (go_at_call 74; go_must ((with_reducible refine (HCL.out).mono ?_); rintro v w5 ⟨a5, c5, rfl, hown5, hb5⟩; have hne5 := hown5.some_ (by rintro e; rw [e] at hjl2; simp at hjl2); obtain ⟨g5, rfl, hg51, hg52⟩ := hne5; have hz5 := hb5.size; rw [World.size_alloc] at hg51 hz5; obtain ⟨s4, s5, s6, s7⟩ := (hT.belowN hb5).c2; have hfz := hown5.frozen j; obtain ⟨z9, zu, hz1, hz2, hz3⟩ := hown5.cell1 (i := j) hjl2 rfl; have hz4 : zu = .int .i64 (q.toNat : Int) := (by have e9 : z9 = (q.toNat : Int) := Option.some.inj (hz1.symm.trans HP.out); rw [e9] at hz2; simpa [Flat.enc] using hz2.symm); rw [hz4] at hz3; have hown6 := hown5.set1 j ((q.toNat : Int) - 1) (.int .i64 ((q.toNat : Int) - 1)) rfl; obtain ⟨s8, s9, sA, sB⟩ := ((hT.belowN hb5).far (p := ⟨g5, j, none⟩) (by simp; omega) (.int .i64 ((q.toNat : Int) - 1))).c2; have hH5 := (hHx.belowN hb5).grown (grown_setCell w5 g5 j (.int .i64 ((q.toNat : Int) - 1))) (fun i hi => by cases hi; omega); clear hz1 hz2 hz4))
          | (go_at_call 117; go_must ((rw [HMU.out]); (with_reducible refine (HPT.out _ _ _ hH5 hown6.at_).mono ?_); rintro v w6 ⟨rfl, hH6, hg6⟩)))
        go_roundw
        case rel => exact ⟨k + 1, by go_num, by omega, by rw [HTK.out]; exact hH6, (((hbr.alloc (by omega) _).trans (hb5.mono (by rw [World.size_alloc]; omega))).setCell (p := ⟨g5, j, none⟩) (by show g ≤ g5; omega) _).grown hg6 (by rw [World.size_setCell]; omega) (fun j hj => by cases hj; omega)⟩
        case measure => simp [intOf]; omega
    · obtain rfl : k = n := by omega
      have htk : A.take k = A := List.take_of_length_le (by rw [← HN.out]; exact Nat.le_refl _)
      rw [htk] at hH
      have hP2 := drvT_right (i := j) HOK.out.right
      have hdl := drvT_len j A
      have hal := HOK.out.len
      obtain ⟨q1, q2, q3⟩ := mk_ok HOK.out.range hP2
      have HA := hide (All_calls wr g va va.toNat (drvT j A) hH (by omega) (LenT.of_right (List.all_eq_true.1 hP2)) (rightL_in hP2) (by have := HOK.out.n64; omega) V L E (by rw [← q2, HV.out]) (by rw [← q3, HL.out]) (by rw [← q1, HE.out]))
      clear hP2 q1 q2 q3 htk hdl hal
      go_wp2_with (go_at_call 119; go_must ((with_reducible refine (HA.out).mono ?_); rintro v w6 ⟨a6, n6, c6, rfl, hT6, hb6⟩; have hX6 := hXr.belowN hb6; obtain ⟨y0, y1, y2, y3⟩ := hX6.c2))
      have hF6 := (hX6.set_ 0 (.int .i64 V)).set_ 1 (.slice a6 n6 c6)
      refine bodyPost_ret (results_rowP rfl _ _ (w.heap.size + 1) _ #[.int .i64 V, .slice a6 n6 c6] (0, 0) _ rfl hF6 Tryz.underlying42 rfl (by kernel_rfl)) rfl ?_
      exact PolyOut.stored (hBr.trans (hb6.mono hBr.size)) hT6 (by omega) hXr.lt hBr.size
theorem drvOk_true {va i : Int} {A : List Tm} (h : drvOk va A i = true) : checkP va A = true ∧ ∃ j : Nat, i = j ∧ (j : Int) < va := by
  unfold drvOk at h
  simp only [Bool.and_eq_true, decide_eq_true_eq] at h
  exact ⟨h.1.1, i.toNat, by omega, by omega⟩
theorem PDrv_calls (P : Nat → Prop) (va i : Int) (a : Option Addr) (n c : Nat) (A : List Tm) (w : World) (h : TOut P w a n c A) (hl : n ≤ 1000000) (hll : ∀ t ∈ A, t.2.length ≤ 1000000) (V : Int) (L : List Tm) (E : Int) (hV : resV (drvOk va A i) va (drvT i.toNat A) = V) (hL : resL (drvOk va A i) va (drvT i.toNat A) = L) (hE : resE (drvOk va A i) va (drvT i.toNat A) = E) :
    Calls Tryz.prog 35 #[.agg #[.int .i64 va, .slice a n c], .int .i64 i] w (PolyOut V L E w) := by
  cases hok : drvOk va A i with
  | false =>
    rw [hok] at hV hL hE
    subst hV hL hE
    exact PDrv_bad P va i a n c A w h hl hll hok
  | true =>
    rw [hok] at hV hL hE
    obtain ⟨h1, j, rfl, hj⟩ := drvOk_true hok
    rw [Int.toNat_natCast] at hV hL hE
    exact PDrv_good P va j hj a n c A w h h1 V L E hV hL hE
end Go.Proofs.YtcamcnahkdiefaaGreat

/- Products: poly.Mul. -/
namespace Go.Proofs.YtcamcnahkdiefaaGreat
set_option linter.unusedVariables false
set_option linter.unusedSimpArgs false
open Go.RowKit
/-- a product of two terms -/
def mul1 (s t : Tm) : Tm := (s.1 * t.1, List.zipWith (· + ·) s.2 t.2)
def mulT (A B : List Tm) : List Tm := A.flatMap fun s => B.map (mul1 s)
theorem mulT_take {A B : List Tm} {k : Nat} {s : Tm} (h : A[k]? = some s) : mulT (A.take (k + 1)) B = mulT (A.take k) B ++ B.map (mul1 s) := by
  unfold mulT
  rw [List.take_add_one, h, List.flatMap_append]; simp
theorem mulT_drop {A B : List Tm} {k : Nat} {s : Tm} (h : A[k]? = some s) : mulT (A.drop k) B = B.map (mul1 s) ++ mulT (A.drop (k + 1)) B := by
  rw [drop_at h]; rfl
theorem map_take1 {B : List Tm} {s t : Tm} {i : Nat} (h : B[i]? = some t) : (B.take (i + 1)).map (mul1 s) = (B.take i).map (mul1 s) ++ [mul1 s t] := by
  rw [List.take_add_one, h, List.map_append]; rfl
theorem map_drop1 {B : List Tm} {s t : Tm} {i : Nat} (h : B[i]? = some t) : (B.drop i).map (mul1 s) = mul1 s t :: (B.drop (i + 1)).map (mul1 s) := by
  rw [drop_at h]; rfl
theorem mulT_len (A B : List Tm) : (mulT A B).length = A.length * B.length := by
  unfold mulT
  induction A with
  | nil => simp
  | cons s A ih => rw [List.flatMap_cons, List.length_append, ih, List.length_map, List.length_cons, Nat.succ_mul]; omega
def mulE (va : Int) (A B : List Tm) : Int := if rightL va (mulT A B) = true then mkE va (mulT A B) else 20
def mulV (va : Int) (A B : List Tm) : Int := if rightL va (mulT A B) = true then mkV va (mulT A B) else 0
def mulL (va : Int) (A B : List Tm) : List Tm := if rightL va (mulT A B) = true then mkL va (mulT A B) else []
theorem rightL_cons (vars : Int) (t : Tm) (l : List Tm) : rightL vars (t :: l) = (rightT vars t.2 && rightL vars l) := rfl
theorem rightL_snoc {vars : Int} {l : List Tm} {t : Tm} (h : rightL vars l = true) (ht : rightT vars t.2 = true) : rightL vars (l ++ [t]) = true := rightL_app h (by rw [rightL_cons, ht]; rfl)
theorem zip_len {a b : List Int} {n : Nat} (h1 : a.length = n) (h2 : b.length = n) : (List.zipWith (· + ·) a b).length = n := by rw [List.length_zipWith]; omega
theorem zip_at {a b : List Int} {i : Nat} {x y : Int} (h1 : a[i]? = some x) (h2 : b[i]? = some y) : (List.zipWith (· + ·) a b)[i]? = some (x + y) := by
  rw [List.getElem?_zipWith, h1, h2]
theorem take_set_next {l m : List Int} {i : Nat} {x : Int} (h : l.take i = m.take i) (hi : i < l.length) (hx : m[i]? = some x) : (l.set i x).take (i + 1) = m.take (i + 1) := by
  rw [List.take_add_one, List.take_add_one, hx, List.take_set_of_le (Nat.le_refl _), h, List.getElem?_set_self hi]
theorem AtTP.getB {P : Nat → Prop} {w wr : World} {a : Option Addr} {ts : List Tm} (h : AtTP P w a ts) (hb : Below w.heap.size w wr) {k : Nat} (hk : k < ts.length) :
    ∃ (b off : Nat) (t : Tm) (ea : Option Addr) (en ec : Nat), a = some ⟨b, off, none⟩ ∧ Hid (ts[k]? = some t) ∧ wr.cell? ⟨b, off + k * 2, none⟩ = some (.int .u64 (t.1.toNat : Int)) ∧ wr.cell? ⟨b, off + k * 2 + 1, none⟩ = some (.slice ea en ec) ∧ Hid (TmH.of w ⟨t.1, ea, en, ec⟩ t) := by
  obtain ⟨hs, h1, h2, h3, _, h5⟩ := h
  obtain ⟨b, off, y, e, hy, hc⟩ := h1.get (k := k) (by omega)
  have ht : ts[k]? = some ts[k] := List.getElem?_eq_getElem hk
  have hq := h3 k y _ hy.out ht
  have c0 := hc 0 _ rfl
  have c1 := hc 1 _ rfl
  refine ⟨b, off, ts[k], y.a, y.n, y.k, e, hide ht, cell_later hb ?_, cell_later hb ?_, hide ?_⟩
  · rw [← hq.1]; simpa [Flat.n] using c0
  · simpa [Flat.n] using c1
  · exact ⟨rfl, hq.2⟩
set_option maxRecDepth 100000 in
set_option maxHeartbeats 12800000 in
theorem PMul_good (P Q : Nat → Prop) (va : Int) (a b : Option Addr) (n c m d : Nat) (A B : List Tm) (w : World) (h : TOut P w a n c A) (h' : TOut Q w b m d B) (hQA : checkP va A = true) (hQB : checkP va B = true) (V : Int) (L : List Tm) (E : Int) (hV : mulV va A B = V) (hL : mulL va A B = L) (hE : mulE va A B = E) :
    Calls Tryz.prog 162 #[.agg #[.int .i64 va, .slice a n c], .agg #[.int .i64 va, .slice b m d]] w (PolyOut V L E w) := by
  obtain ⟨hX1, hX2, hX3, hb0, hz0⟩ := three_boxes w 42 42 42 #[.int .i64 va, .slice a n c] #[.int .i64 va, .slice b m d] #[.int .i64 0, .slice none 0 0]
  obtain ⟨W0, hW0⟩ : ∃ W0, ((w.alloc (.cells #[.int .i64 va, .slice a n c] 42)).alloc (.cells #[.int .i64 va, .slice b m d] 42)).alloc (.cells #[.int .i64 0, .slice none 0 0] 42) = W0 := ⟨_, rfl⟩
  rw [hW0] at hX1 hX2 hX3 hb0 hz0
  have hokA := checkP_ok hQA
  have hokB := checkP_ok hQB
  have hn4 : n ≤ 4096 := by rw [h.len]; exact hokA.len
  have hm4 : m ≤ 4096 := by rw [h'.len]; exact hokB.len
  have HCA := hide (Check_calls va a n c A h.len W0 (h.at_.at_.belowN hb0) (by omega) hokA.len6 true hQA)
  have HCB := hide (fun (W : World) (k : Below W0.heap.size W0 W) => Check_calls va b m d B h'.len W ((h'.at_.at_.belowN hb0).belowN k) (by omega) hokB.len6 true hQB)
  obtain ⟨p0, p1, p2, p3⟩ := hX1.c2
  obtain ⟨q0, q1, q2, q3⟩ := hX2.c2
  have HW0 := hide hW0
  have e1 : (va != va) = false := by simp
  have e2 : (va == va) = true := by simp
  have hatA := h.at_.belowN hb0
  have hatB := h'.at_.belowN hb0
  have HN := hide h.len
  have HM := hide h'.len
  have HOA := hide hokA
  have HOB := hide hokB
  have HV := hide hV
  have HL := hide hL
  have HE := hide hE
  obtain ⟨vn, hvn⟩ : ∃ vn : Nat, va = vn := ⟨va.toNat, by have := hokA.v; omega⟩
  have hv64 : vn ≤ 64 := by have := hokA.n64; omega
  subst hvn
  have HH := hide (fun W => Heap_calls vn (vn : Int) W)
  obtain ⟨R, hR⟩ : ∃ R, rightL (vn : Int) (mulT A B) = R := ⟨_, rfl⟩
  have HR := hide hR
  have HR0 : Hid (rightL (vn : Int) (mulT (A.drop 0) B) = R) := hR
  have HP0 : Hid (rightL (vn : Int) (mulT (A.take 0) B) = true) := rfl
  clear hQA hQB h h' hW0 hokA hokB hV hL hE hR
  go_enter Tryz.func162, Tryz.ntmps162
  go_wp2_with (first
    | (have hgd := hb1; go_at_call 49; go_must ((with_reducible refine (HCB.out _ hb1).mono ?_); rintro v w2 ⟨rfl, hb2⟩; have hB2 := hb1.trans (hb2.mono hb1.size); have hX5 := hX3.belowN hB2; obtain ⟨r0, r1, r2, r3⟩ := (hX1.belowN hB2).c2; obtain ⟨s0, s1, s2, s3⟩ := (hX2.belowN hB2).c2))
    | (go_at_call 49; go_must ((rw [HW0.out]); (with_reducible refine (HCA.out).mono ?_); rintro v w1 ⟨rfl, hb1⟩; obtain ⟨s0, s1, s2, s3⟩ := (hX2.belowN hb1).c2))
    | (go_at_call 73; go_must ((with_reducible refine (HH.out _).mono ?_); rintro v w3 ⟨rfl, hH3, hb3⟩; have hB3 := hB2.trans (hb3.mono hB2.size); obtain ⟨t0, t1, t2, t3⟩ := (hX1.belowN hB3).c2))
    | (at_make; go_must (refine wpList_mk tyI03 (B := w3.heap.size) (n := vn) rfl rfl rfl rfl rfl rfl (Nat.le_refl _) (by omega) ?_; intro w4 hown4 hg4; have hb4 := below_of_grown hg4; have hB4 := hB3.trans (hb4.mono hB3.size); obtain ⟨u0, u1, u2, u3⟩ := (hX1.belowN hB4).c2)))
  obtain ⟨g, hg⟩ : ∃ g, g = w2.heap.size := ⟨_, rfl⟩
  obtain ⟨ge, hge⟩ : ∃ ge, ge = w3.heap.size := ⟨_, rfl⟩
  rw [← hg] at hH3 ⊢
  rw [← hge] at hown4 ⊢
  have hgge : g + 2 < ge := by rw [hge]; exact hH3.lt
  have hH4 := hH3.belowN hb4
  have hb24 : Below g w2 w4 := by rw [hg]; exact hb3.trans (hb4.mono hb3.size)
  have hgw : w.heap.size + 1 + 1 < g := by rw [hg]; exact hX5.lt
  have hBz := hb0.trans (hB2.mono hb0.size)
  have hA2 := hatA.belowN hB2
  have hBB2 := hatB.belowN hB2
  have hY1 := hX1.belowN hB2
  have hY2 := hX2.belowN hB2
  have hge4 : ge < w4.heap.size := by have := hown4.blk ge rfl; omega
  have HG := hide hg
  clear hg hge hB4 hB3 hb3 hb4 hg4 hH3 HH HCA HCB hatA hatB hX1 hX2 hX3 hgd
  go_loopw [42] (fun iv wr => ∃ (k : Nat) (l : List Int), iv = .int .i64 k ∧ k ≤ n ∧ Hid (rightL (vn : Int) (mulT (A.drop k) B) = R) ∧ Hid (rightL (vn : Int) (mulT (A.take k) B) = true) ∧ HeapT wr g (vn : Int) vn (mulT (A.take k) B) ∧ l.length = vn ∧ Own wr ge 3 (some ⟨ge, 0, none⟩) vn l ∧ Below g w2 wr) (fun iv _ => n - (intOf iv).toNat)
  case atStart => exact ⟨0, _, rfl, by omega, HR0.out, HP0.out, hH4, by simp, hown4, hb24⟩
  case round =>
    obtain ⟨k, l, rfl, hk, hRk, hPk, hH, hll, hown, hbr⟩ := hrel
    have hbX : Below w2.heap.size w2 wr := hbr.mono (by rw [HG.out]; exact Nat.le_refl _)
    have hzr := hH.lt
    have hger := (hown.blk ge rfl).2
    have hXr := hX5.belowN hbX
    have hBr := hBz.trans (hbX.mono hBz.size)
    obtain ⟨x0, x1, x2, x3⟩ := hXr.c2
    by_cases hlt : k < n
    · obtain ⟨b1, off1, t, ea, en, ec, rfl, ht, t0, t1, hrow⟩ := hA2.getB hbX (k := k) (by rw [← HN.out]; exact hlt)
      have hk0 : (0 : Int) ≤ (k : Int) := by omega
      have hk1 : (k : Int) < (n : Int) := by omega
      have hen : en = t.2.length := hrow.out.2.1
      have hrt := HOA.out.rt t (List.mem_of_getElem? ht.out)
      have hlen := rightT_len hrt
      have henv : en = vn := by omega
      have hin := rightT_in hrt
      have HIN := hide hin
      subst henv
      have hRk2 := hRk.out
      rw [mulT_drop ht.out] at hRk2
      have HRK2 : Hid (rightL (en : Int) ((B.drop 0).map (mul1 t) ++ mulT (A.drop (k + 1)) B) = R) := hRk2
      have HTA := hide (mulT_take (B := B) ht.out)
      have hPs : Hid (rightL (en : Int) (mulT (A.take k) B ++ (B.take 0).map (mul1 t)) = true) := by
        show _ = _
        rw [List.take_zero, List.map_nil, List.append_nil]; exact hPk.out
      have hbx := below_box wr (.cells #[.int .u64 (t.1.toNat : Int), .slice ea en ec] 92)
      have hT := Blk.new wr 92 #[.int .u64 (t.1.toNat : Int), .slice ea en ec]
      have hHs : HeapT (wr.alloc (.cells #[.int .u64 (t.1.toNat : Int), .slice ea en ec] 92)) g (en : Int) en (mulT (A.take k) B ++ (B.take 0).map (mul1 t)) := by
        rw [List.take_zero, List.map_nil, List.append_nil]; exact hH.belowN hbx
      obtain ⟨bs, hbs⟩ : ∃ bs, bs = wr.heap.size := ⟨_, rfl⟩
      have hgebs : ge < bs := by rw [hbs]; exact hger
      have hbxg : Below g w2 (wr.alloc (.cells #[.int .u64 (t.1.toNat : Int), .slice ea en ec] 92)) := hbr.alloc (by omega) _
      obtain ⟨s4, s5, s6, s7⟩ := ((hY2.belowN hbX).belowN hbx).c2
      have HLA := hide (show (mulT (A.take k) B).length + m ≤ 16777216 by
        rw [mulT_len, List.length_take, ← HN.out, ← HM.out, Nat.min_eq_left (by omega)]
        have : (k + 1) * m ≤ 4096 * 4096 := Nat.mul_le_mul (by omega) hm4
        rw [Nat.succ_mul] at this
        omega)
      have hea := hrow.out.2.2.2.2
      have HT := hide hT
      obtain ⟨wo, rfl⟩ : ∃ wo : World, wo = wr := ⟨_, rfl⟩
      clear ht hen hlen hrt hRk2 hin hH hT
      go_wp2
      rw [← hbs]
      have hT1 : Blk (wo.alloc (.cells #[.int .u64 (t.1.toNat : Int), .slice ea en ec] 92)) bs 92 #[.int .u64 (t.1.toNat : Int), .slice ea en ec] := by rw [hbs]; exact HT.out
      have HBS := hide hbs
      have hown1 := hown.alloc (.cells #[.int .u64 (t.1.toNat : Int), .slice ea en ec] 92)
      clear hbs HT
      go_loopw [49] (fun jv wi => ∃ (i : Nat) (l : List Int), jv = .int .i64 i ∧ i ≤ m ∧ Hid (rightL (en : Int) ((B.drop i).map (mul1 t) ++ mulT (A.drop (k + 1)) B) = R) ∧ Hid (rightL (en : Int) (mulT (A.take k) B ++ (B.take i).map (mul1 t)) = true) ∧ HeapT wi g (en : Int) en (mulT (A.take k) B ++ (B.take i).map (mul1 t)) ∧ l.length = en ∧ Own wi ge 3 (some ⟨ge, 0, none⟩) en l ∧ Blk wi bs 92 #[.int .u64 (t.1.toNat : Int), .slice ea en ec] ∧ Below g w2 wi) (fun jv _ => m - (intOf jv).toNat)
      case atStart => exact ⟨0, l, rfl, by omega, HRK2.out, hPs.out, hHs, hll, hown1, hT1, hbxg⟩
      case round =>
        obtain ⟨i, l, rfl, hi, hRi, hPi, hH, hll, hown, hT, hbr⟩ := hrel
        have hbX : Below w2.heap.size w2 wr := hbr.mono (by rw [HG.out]; exact Nat.le_refl _)
        have hzr := hH.lt
        have hbsr := hT.lt
        obtain ⟨c0, c1, c2, c3⟩ := hT.c2
        by_cases hlt : i < m
        · obtain ⟨b2, off2, s, fa, fn, fc, rfl, hs, s0, s1, hrowS⟩ := hBB2.getB hbX (k := i) (by rw [← HM.out]; exact hlt)
          have hi0 : (0 : Int) ≤ (i : Int) := by omega
          have hi1 : (i : Int) < (m : Int) := by omega
          have hfn : fn = s.2.length := hrowS.out.2.1
          have hrts := HOB.out.rt s (List.mem_of_getElem? hs.out)
          have hlens := rightT_len hrts
          have hfnv : fn = en := by omega
          have HINS := hide (rightT_in hrts)
          subst hfnv
          have hRi2 := hRi.out
          rw [map_drop1 hs.out, List.cons_append, rightL_cons] at hRi2
          have HBT := hide (map_take1 (s := t) hs.out)
          obtain ⟨bt, hbt⟩ : ∃ bt, bt = wr.heap.size := ⟨_, rfl⟩
          have hbx := below_box wr (.cells #[.int .u64 (s.1.toNat : Int), .slice fa fn fc] 92)
          have hSB := Blk.new wr 92 #[.int .u64 (s.1.toNat : Int), .slice fa fn fc]
          rw [← hbt] at hSB
          have hbsbt : bs < bt := by rw [hbt]; exact hbsr
          have hHs := hH.belowN hbx
          have hTs := hT.belowN hbx
          have hown1 := hown.belowN hbx
          have hbxg : Below g w2 (wr.alloc (.cells #[.int .u64 (s.1.toNat : Int), .slice fa fn fc] 92)) := hbr.alloc (by omega) _
          have hfa := hrowS.out.2.2.2.2
          obtain ⟨Z, hZ⟩ : ∃ Z, List.zipWith (· + ·) t.2 s.2 = Z := ⟨_, rfl⟩
          have hea6 : t.2.length = fn := by have := hrow.out.2.1; exact this.symm
          have hZl : Z.length = fn := by rw [← hZ]; exact zip_len hea6 hfn.symm
          have HZ := hide hZ
          have HZL := hide hZl
          have HS := hide hs.out
          have HFN := hide hfn
          have HEA6 := hide hea6
          have HBTE := hide hbt
          obtain ⟨wi, rfl⟩ : ∃ wi : World, wi = wr := ⟨_, rfl⟩
          clear hs hfn hlens hrts hH hT hZ hZl hea6
          go_wp2
          rw [← hbt]
          clear hbt
          go_loopw [55] (fun pv wp => ∃ (p : Nat) (l : List Int), pv = .int .i64 p ∧ p ≤ fn ∧ Hid (l.take p = Z.take p) ∧ HeapT wp g (fn : Int) fn (mulT (A.take k) B ++ (B.take i).map (mul1 t)) ∧ l.length = fn ∧ Own wp ge 3 (some ⟨ge, 0, none⟩) fn l ∧ Blk wp bs 92 #[.int .u64 (t.1.toNat : Int), .slice ea fn ec] ∧ Blk wp bt 92 #[.int .u64 (s.1.toNat : Int), .slice fa fn fc] ∧ Below g w2 wp) (fun pv _ => fn - (intOf pv).toNat)
          case atStart => exact ⟨0, l, rfl, by omega, rfl, hHs, hll, hown1, hTs, hSB, hbxg⟩
          case round =>
            obtain ⟨p, l, rfl, hp, hpl, hH, hll, hown, hT, hSB, hbr⟩ := hrel
            have hbX : Below w2.heap.size w2 wr := hbr.mono (by rw [HG.out]; exact Nat.le_refl _)
            have hzr := hH.lt
            obtain ⟨c0, c1, c2, c3⟩ := hT.c2
            obtain ⟨d0, d1, d2, d3⟩ := hSB.c2
            by_cases hlt : p < fn
            · obtain ⟨b3, off3, x, rfl, hx, y0⟩ := hea.getI hbX (k := p) (by rw [HEA6.out]; exact hlt)
              obtain ⟨b4, off4, y, rfl, hy, y1⟩ := hfa.getI hbX (k := p) (by rw [← HFN.out]; exact hlt)
              have hp0 : (0 : Int) ≤ (p : Int) := by omega
              have hp1 : (p : Int) < (fn : Int) := by omega
              have hxr := HIN.out x (List.mem_of_getElem? hx.out)
              have hyr := HINS.out y (List.mem_of_getElem? hy.out)
              have hZp : Z[p]? = some (x + y) := by rw [← HZ.out]; exact zip_at hx.out hy.out
              have hfz := hown.frozen p
              obtain ⟨z, zu, hz1, hz2, hz3⟩ := hown.cell1 (i := p) (by omega) rfl
              have hzu : zu = .int .i64 z := by simpa [Flat.enc] using hz2.symm
              subst hzu
              have hown2 := (hown.drew).set1 p (x + y) (.int .i64 (x + y)) rfl
              have HT2 := hide (take_set_next hpl.out (by omega) hZp)
              clear hx hy hz1 hz2 hZp
              go_wp2
              go_region
              go_wp2
              go_roundw
              case rel => exact ⟨p + 1, _, by go_num, by omega, HT2.out, (hH.belowN (below_drawn _ _ 1)).grown (grown_setCell _ ge p _) (fun j hj => by cases hj; omega), by simpa using hll, hown2, (hT.drewN 1).far (p := ⟨ge, p, none⟩) (by simp; omega) _, (hSB.drewN 1).far (p := ⟨ge, p, none⟩) (by simp; omega) _, (hbr.trans (below_drawn _ _ 1)).setCell (p := ⟨ge, p, none⟩) (by show g ≤ ge; omega) _⟩
              case measure => simp [intOf]; omega
            · obtain rfl : p = fn := by omega
              have hlZ : l = Z := by
                have := hpl.out
                rw [List.take_of_length_le (by omega), List.take_of_length_le (by rw [HZL.out]; exact Nat.le_refl _)] at this
                exact this
              subst hlZ
              obtain ⟨v0, v1, v2, v3⟩ := (hY1.belowN hbX).c2
              have hXr := hX5.belowN hbX
              obtain ⟨x0, x1, x2, x3⟩ := hXr.c2
              have hBr := hBz.trans (hbX.mono hBz.size)
              obtain ⟨R1, hR1⟩ : ∃ R1, rightT (p : Int) l = R1 := ⟨_, rfl⟩
              have HRC := hide (PRight_calls (p : Int) (some ⟨ge, 0, none⟩) p p l hll.symm wr hown.at_ (by omega) R1 hR1)
              have hmt : (mul1 t s).2 = l := HZ.out
              rw [hmt, hR1] at hRi2
              cases R1 with
              | false =>
                have hQF : R = false := by rw [← hRi2]; rfl
                have hV := HV.out
                have hL := HL.out
                have hE := HE.out
                unfold mulV at hV
                unfold mulL at hL
                unfold mulE at hE
                rw [HR.out, hQF] at hV hL hE
                rw [if_neg (by decide)] at hV hL hE
                subst hV hL hE
                clear hRi2 hR1 hmt hpl hQF
                go_wp2_with (go_at_call 99; go_must ((with_reducible refine (HRC.out).mono ?_); rintro v w5 ⟨rfl, rfl⟩))
                have hF6 := (hXr.set_ 0 (.int .i64 0)).set_ 1 (.slice none 0 0)
                refine bodyPost_ret (results_rowP rfl _ _ (w.heap.size + 1 + 1) _ #[.int .i64 0, .slice none 0 0] (0, 0) _ rfl hF6 Tryz.underlying42 rfl (by kernel_rfl)) rfl ?_
                exact PolyOut.bad _ _ _ ((hBr.setCell (p := ⟨w.heap.size + 1 + 1, 0, none⟩) (by show _ ≤ w.heap.size + 1 + 1; omega) (.int .i64 0)).setCell (p := ⟨w.heap.size + 1 + 1, 1, none⟩) (by show _ ≤ w.heap.size + 1 + 1; omega) (.slice none 0 0))
              | true =>
                rw [Bool.true_and] at hRi2
                have HRi2 := hide hRi2
                have HPi2 := hide (rightL_snoc (t := mul1 t s) hPi.out (by rw [hmt]; exact hR1))
                have HLB := hide (show (mulT (A.take k) B ++ (B.take i).map (mul1 t)).length ≤ 16777216 by
                  have h1 := HLA.out
                  rw [List.length_append, List.length_map, List.length_take, ← HM.out, Nat.min_eq_left (by omega)]
                  omega)
                have HPT := hide (Put_calls wr g (p : Int) p _ hH (by have := HLB.out; omega) (mul1 t s) (some ⟨ge, 0, none⟩) p p (by rw [hmt, hll]) (by rw [hmt]; exact hll) (by omega) (by rw [hmt]; exact rightT_in hR1) (by rw [hmt]; exact hown.at_))
                have HMU := hide (show IntKind.u64.wrap ((t.1.toNat : Int) * (s.1.toNat : Int)) = ((mul1 t s).1.toNat : Int) from u64_mul t.1 s.1)
                clear hRi2 hR1 hmt hpl
                go_wp2_with (first
                  | (go_at_call 99; go_must ((with_reducible refine (HRC.out).mono ?_); rintro v w5 ⟨rfl, rfl⟩))
                  | (go_at_call 117; go_must ((rw [HMU.out]); (with_reducible refine (HPT.out).mono ?_); rintro v w6 ⟨rfl, hH6, hg6⟩)))
                go_roundw
                case rel =>
                  refine ⟨i + 1, l, by go_num, by omega, HRi2.out, by rw [HBT.out, ← List.append_assoc]; exact HPi2.out, by rw [HBT.out, ← List.append_assoc]; exact hH6, hll, hown.grown hg6 (.inr (by simp; omega)), hT.grown hg6 (by simp; omega), hbr.grown hg6 (by omega) (fun j hj => by cases hj; omega)⟩
                case measure => simp [intOf]; omega
        · obtain rfl : i = m := by omega
          have hRi2 := hRi.out
          have hPi2 := hPi.out
          rw [List.drop_eq_nil_of_le (by rw [← HM.out]; exact Nat.le_refl _), List.map_nil, List.nil_append] at hRi2
          rw [show B.take i = B from List.take_of_length_le (by rw [← HM.out]; exact Nat.le_refl _)] at hPi2 hH
          rw [← HTA.out] at hPi2 hH
          have HRi2 := hide hRi2
          have HPi2 := hide hPi2
          clear hRi2 hPi2
          go_wp2
          go_roundw
          case rel => exact ⟨k + 1, l, by go_num, by omega, HRi2.out, HPi2.out, hH, hll, hown, hbr⟩
          case measure => simp [intOf]; omega
    · obtain rfl : k = n := by omega
      have hP2 := hPk.out
      have htk : A.take k = A := List.take_of_length_le (by rw [← HN.out]; exact Nat.le_refl _)
      rw [htk] at hP2 hH
      obtain ⟨q1, q2, q3⟩ := mk_ok HOA.out.range hP2
      have hV := HV.out
      have hL := HL.out
      have hE := HE.out
      unfold mulV at hV
      unfold mulL at hL
      unfold mulE at hE
      rw [if_pos hP2] at hV hL hE
      have hml : (mulT A B).length ≤ 16777216 := by
        rw [mulT_len, ← HN.out, ← HM.out]
        exact Nat.mul_le_mul hn4 hm4
      have hlt2 := LenT.of_right (List.all_eq_true.1 hP2)
      rw [Int.toNat_natCast] at hlt2
      have HA := hide (All_calls wr g (vn : Int) vn (mulT A B) hH (by omega) hlt2 (rightL_in hP2) (by omega) V L E (by rw [← q2, hV]) (by rw [← q3, hL]) (by rw [← q1, hE]))
      clear hP2 q1 q2 q3 htk hV hL hE hml hlt2
      go_wp2_with (go_at_call 119; go_must ((with_reducible refine (HA.out).mono ?_); rintro v w6 ⟨a6, n6, c6, rfl, hT6, hb6⟩; have hX6 := hXr.belowN hb6; obtain ⟨y0, y1, y2, y3⟩ := hX6.c2))
      have hF6 := (hX6.set_ 0 (.int .i64 V)).set_ 1 (.slice a6 n6 c6)
      refine bodyPost_ret (results_rowP rfl _ _ (w.heap.size + 1 + 1) _ #[.int .i64 V, .slice a6 n6 c6] (0, 0) _ rfl hF6 Tryz.underlying42 rfl (by kernel_rfl)) rfl ?_
      exact PolyOut.stored (hBr.trans (hb6.mono hBr.size)) hT6 (by omega) hXr.lt hBr.size
end Go.Proofs.YtcamcnahkdiefaaGreat

/- Products: the document's. -/
namespace Go.Proofs.YtcamcnahkdiefaaGreat
set_option linter.unusedVariables false
set_option linter.unusedSimpArgs false
open Go.RowKit
end Go.Proofs.YtcamcnahkdiefaaGreat
