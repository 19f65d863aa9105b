/- Several texts of mine in one file. -/
import Derived.Test.YtcamcnahkdiefaaGreatYMCak
import Derived.Lib.AppendZeros
/- Several texts of mine in one file: Pt, Pn, Pu, Pv. -/
/- poly.Make. -/
namespace Go.Proofs.YtcamcnahkdiefaaGreat
set_option linter.unusedVariables false
set_option linter.unusedSimpArgs false
open Go.RowKit Go.Maps
theorem mk_ok {vars : Int} {l : List Tm} (h : ¬ (vars < 0 ∨ 64 < vars)) (hr : rightL vars l = true) : mkE vars l = allE l ∧ mkV vars l = allV vars l ∧ mkL vars l = allL l := by
  have e : mkE vars l = allE l := by unfold mkE allE; rw [if_neg h, hr]; rfl
  exact ⟨e, by unfold mkV allV; rw [e], by unfold mkL allL; rw [e]⟩
theorem mk_wrong {vars : Int} {l : List Tm} (h : ¬ (vars < 0 ∨ 64 < vars)) (hr : rightL vars l = false) : mkE vars l = 2 ∧ mkV vars l = 0 ∧ mkL vars l = [] := by
  have e : mkE vars l = 2 := by unfold mkE; rw [if_neg h, if_pos hr]
  exact ⟨e, by unfold mkV; rw [e]; rfl, by unfold mkL; rw [e]; rfl⟩
theorem rightL_in {vars : Int} {l : List Tm} (h : rightL vars l = true) : ∀ t ∈ l, InE t.2 := fun t ht => rightT_in (List.all_eq_true.1 h t ht)
theorem LenT.of_right {vars : Int} {l : List Tm} (h : ∀ t ∈ l, rightT vars t.2 = true) : LenT vars.toNat l := fun t ht => by have := rightT_len (h t ht); omega
theorem PolyOut.stored {w wc w5 : World} {g : Nat} {V E : Int} {L : List Tm} {a : Option Addr} {n c : Nat} (hb : Below w.heap.size w w5) (hT : TOut (fun q => wc.heap.size ≤ q) w5 a n c L) (h1 : w.heap.size ≤ g) (h2 : g < wc.heap.size) (h3 : w.heap.size ≤ wc.heap.size) :
    PolyOut V L E w (.returned (.tuple #[.agg #[.int .i64 V, .slice a n c], .int .i64 E])) ((w5.setCell ⟨g, 0, none⟩ (.int .i64 V)).setCell ⟨g, 1, none⟩ (.slice a n c)) :=
  ⟨a, n, c, rfl, ((hT.setCell _ (by omega)).setCell _ (by omega)).imp fun q hq => by omega, (hb.setCell (p := ⟨g, 0, none⟩) h1 _).setCell (p := ⟨g, 1, none⟩) h1 _⟩
set_option maxRecDepth 100000 in
set_option maxHeartbeats 6400000 in
theorem PMake_calls (P : Nat → Prop) (vars : Int) (a : Option Addr) (n c : Nat) (ts : List Tm) (w : World) (h : TOut P w a n c ts) (hl : n ≤ 100000000) (hll : ∀ t ∈ ts, t.2.length ≤ 1000000) (V : Int) (L : List Tm) (E : Int) (hV : mkV vars ts = V) (hL : mkL vars ts = L) (hE : mkE vars ts = E) :
    Calls Tryz.prog 84 #[.int .i64 vars, .slice a n c] w (PolyOut V L E w) := by
  have hb0 := below_box w (.cells #[.int .i64 0, .slice none 0 0] 42)
  have hX := Blk.new w 42 #[.int .i64 0, .slice none 0 0]
  by_cases hv : vars < 0 ∨ 64 < vars
  case pos =>
    obtain ⟨q1, q2, q3⟩ := mk_bad hv ts
    rw [q1] at hE
    rw [q2] at hV
    rw [q3] at hL
    subst hE hV hL
    by_cases h1 : vars < 0
    · go_enter Tryz.func84, Tryz.ntmps84
      go_wp2
      refine bodyPost_ret (results_rowP rfl _ _ (w.heap.size) _ #[.int .i64 0, .slice none 0 0] (0, 0) _ rfl hX Tryz.underlying42 rfl (by kernel_rfl)) rfl ?_
      exact PolyOut.bad _ _ _ hb0
    · have h2 : 64 < vars := by omega
      go_enter Tryz.func84, Tryz.ntmps84
      go_wp2
      refine bodyPost_ret (results_rowP rfl _ _ (w.heap.size) _ #[.int .i64 0, .slice none 0 0] (0, 0) _ rfl hX Tryz.underlying42 rfl (by kernel_rfl)) rfl ?_
      exact PolyOut.bad _ _ _ hb0
  case neg =>
    have h1 : ¬ vars < 0 := by omega
    have h2 : ¬ 64 < vars := by omega
    have HN := hide h.len
    have HLL := hide hll
    have HV := hide hV
    have HL := hide hL
    have HE := hide hE
    have HNV := hide hv
    obtain ⟨Q, hQ⟩ : ∃ Q, rightL vars ts = Q := ⟨_, rfl⟩
    have HQ0 := hide hQ
    have HQ : Hid (rightL vars (ts.drop 0) = Q) := hQ
    have HP0 : Hid (rightL vars (ts.take 0) = true) := rfl
    have hat := h.at_.belowN hb0
    have hh := Heap_calls vars.toNat vars (w.alloc (.cells #[.int .i64 0, .slice none 0 0] 42))
    obtain ⟨g, hg⟩ : ∃ g, (w.alloc (.cells #[.int .i64 0, .slice none 0 0] 42)).heap.size = g := ⟨_, rfl⟩
    rw [hg] at hh
    have HH := hide hh
    have hgw : w.heap.size < g := by rw [← hg, World.size_alloc]; omega
    have HG := hide hg
    clear hE hV hL hll hv hQ hh hg
    go_enter Tryz.func84, Tryz.ntmps84
    go_wp2_with (go_at_call 73; go_must ((with_reducible refine (HH.out).mono ?_); rintro v w1 ⟨rfl, hH1, hb1'⟩; have hb1 := HG.out ▸ hb1'; have hB1 := hb0.trans (hb1.mono hb0.size); have hX1 := hX.belowN hb1; have hat1 := hat.belowN hb1; have hz1 := hH1.lt))
    clear HH hb1' hX
    go_loopw [24] (fun iv wr => ∃ k : Nat, iv = .int .i64 k ∧ k ≤ n ∧ Hid (rightL vars (ts.drop k) = Q) ∧ Hid (rightL vars (ts.take k) = true) ∧ HeapT wr g vars vars.toNat (ts.take k) ∧ Below g w1 wr) (fun iv _ => n - (intOf iv).toNat)
    case atStart => exact ⟨0, rfl, by omega, HQ.out, HP0.out, hH1, Below.refl _ _⟩
    case round =>
      obtain ⟨k, rfl, hk, hQk, hPk, hH, hbr⟩ := hrel
      have hbX := hb1.trans (hbr.mono (show (w.alloc (.cells #[.int .i64 0, .slice none 0 0] 42)).heap.size ≤ g by rw [HG.out]; exact Nat.le_refl _))
      have hzr := hH.lt
      have hXr := hX1.below hbr hgw
      have hBr := hB1.trans (hbr.mono (Nat.le_of_lt hgw) |>.mono (Nat.le_refl _))
      obtain ⟨x0, x1, x2, x3⟩ := hXr.c2
      by_cases hlt : k < n
      · obtain ⟨b1, off1, t, ea, en, ec, rfl, ht, t0, t1, hrow, hfar⟩ := hat.getF hbX (k := k) (by rw [← HN.out]; exact hlt)
        have hQ2 := hQk.out
        rw [rightL_step ht.out] at hQ2
        have hk0 : (0 : Int) ≤ (k : Int) := by omega
        have hk1 : (k : Int) < (n : Int) := by omega
        have hen : en = t.2.length := hrow.out.2.1
        have hen6 : en ≤ 1000000 := by rw [hen]; exact HLL.out t (List.mem_of_getElem? ht.out)
        have hbx := below_box wr (.cells #[.int .u64 (t.1.toNat : Int), .slice ea en ec] 92)
        obtain ⟨r0, r1, r2, r3⟩ := (Blk.new wr 92 #[.int .u64 (t.1.toNat : Int), .slice ea en ec]).c2
        obtain ⟨R, hR⟩ : ∃ R, rightT vars t.2 = R := ⟨_, rfl⟩
        have hea := hrow.out.2.2.2.2.belowN hbx
        have HR := hide (PRight_calls vars ea en ec t.2 hen _ hea hen6 R hR)
        rw [hR] at hQ2
        obtain ⟨z0, z1, z2, z3⟩ := (hXr.belowN hbx).c2
        cases R with
        | false =>
          have hQF : Q = false := by rw [← hQ2]; rfl
          subst hQF
          obtain ⟨q1, q2, q3⟩ := mk_wrong HNV.out HQ0.out
          have hV := HV.out; have hL := HL.out; have hE := HE.out
          rw [q1] at hE
          rw [q2] at hV
          rw [q3] at hL
          subst hE hV hL
          have hF6 := ((hXr.belowN hbx).set_ 0 (.int .i64 0)).set_ 1 (.slice none 0 0)
          clear hQ2 hR ht hen q1 q2 q3
          go_wp2_with (go_at_call 99; go_must ((with_reducible refine (HR.out).mono ?_); rintro v w5 ⟨rfl, rfl⟩))
          refine bodyPost_ret (results_rowP rfl _ _ (w.heap.size) _ #[.int .i64 0, .slice none 0 0] (0, 0) _ rfl hF6 Tryz.underlying42 rfl (by kernel_rfl)) rfl ?_
          have hb4 := hBr.trans (hbx.mono hBr.size)
          exact PolyOut.bad _ _ _ ((hb4.setCell (p := ⟨w.heap.size, 0, none⟩) (Nat.le_refl _) (.int .i64 0)).setCell (p := ⟨w.heap.size, 1, none⟩) (Nat.le_refl _) (.slice none 0 0))
        | true =>
          rw [Bool.true_and] at hQ2
          have HQ2 := hide hQ2
          have HTK := hide (show ts.take (k + 1) = ts.take k ++ [t] by rw [List.take_add_one, ht.out]; rfl)
          have HP2 : Hid (rightL vars (ts.take (k + 1)) = true) := by
            show _ = true
            rw [HTK.out]
            have := hPk.out
            unfold rightL at this ⊢
            rw [List.all_append, this]; simp [hR]
          have hlen := rightT_len hR
          have HPT := hide (Put_calls (wr.alloc (.cells #[.int .u64 (t.1.toNat : Int), .slice ea en ec] 92)) g vars vars.toNat (ts.take k) (hH.belowN hbx) (by rw [List.length_take]; omega) t ea en ec hen (by omega) (by omega) (rightT_in hR) hea)
          clear hQ2 hR ht hen hlen
          go_wp2_with (first
            | (go_at_call 99; go_must ((with_reducible refine (HR.out).mono ?_); rintro v w5 ⟨rfl, rfl⟩))
            | (go_at_call 117; go_must ((with_reducible refine (HPT.out).mono ?_); rintro v w6 ⟨rfl, hH6, hg6⟩)))
          go_roundw
          case rel => exact ⟨k + 1, by go_num, by omega, HQ2.out, HP2.out, by rw [HTK.out]; exact hH6, (hbr.alloc (by omega) _).grown hg6 (by rw [World.size_alloc]; omega) (fun j hj => by cases hj; omega)⟩
          case measure => simp [intOf]; omega
      · obtain rfl : k = n := by omega
        have hP2 := hPk.out
        rw [List.take_of_length_le (by rw [← HN.out]; exact Nat.le_refl _)] at hP2 hH
        obtain ⟨q1, q2, q3⟩ := mk_ok HNV.out hP2
        have HA := hide (All_calls wr g vars vars.toNat ts hH (by rw [← HN.out]; exact hl) (LenT.of_right (List.all_eq_true.1 hP2)) (rightL_in hP2) (by omega) V L E (by rw [← q2, HV.out]) (by rw [← q3, HL.out]) (by rw [← q1, HE.out]))
        clear hP2 q1 q2 q3
        go_wp2_with (go_at_call 119; go_must ((with_reducible refine (HA.out).mono ?_); rintro v w6 ⟨a6, n6, c6, rfl, hT6, hb6⟩; have hX6 := hXr.belowN hb6; obtain ⟨y0, y1, y2, y3⟩ := hX6.c2))
        have hF6 := (hX6.set_ 0 (.int .i64 V)).set_ 1 (.slice a6 n6 c6)
        refine bodyPost_ret (results_rowP rfl _ _ (w.heap.size) _ #[.int .i64 V, .slice a6 n6 c6] (0, 0) _ rfl hF6 Tryz.underlying42 rfl (by kernel_rfl)) rfl ?_
        exact PolyOut.stored (hBr.trans (hb6.mono hBr.size)) hT6 (Nat.le_refl _) hXr.lt hBr.size
end Go.Proofs.YtcamcnahkdiefaaGreat

/- Const and Var of both sides. -/
namespace Go.Proofs.YtcamcnahkdiefaaGreat
set_option linter.unusedVariables false
set_option linter.unusedSimpArgs false
open Go.RowKit
theorem TOut.one {w : World} {g : Nat} {t : Tm} {ea : Option Addr} {en ec : Nat} (hb : Blk w g 92 #[.int .u64 (t.1.toNat : Int), .slice ea en ec]) (hr : TmH.of w ⟨t.1, ea, en, ec⟩ t) : TOut (fun _ => True) w (some ⟨g, 0, none⟩) 1 1 [t] :=
  ⟨rfl, Nat.le_refl _, by decide, AtT.any ⟨[⟨t.1, ea, en, ec⟩], At.ofBlk hb [(⟨t.1, ea, en, ec⟩ : TmH)] rfl, rfl, fun i h s e1 e2 => by
    have hi : i = 0 := by have := (List.getElem?_eq_some_iff.1 e1).1; simp at this; exact this
    subst hi
    simp at e1 e2
    subst e1 e2
    exact hr⟩⟩
theorem TOut.one_ {w : World} {g : Nat} {t : Tm} {ea : Option Addr} {en : Nat} (hb : Blk w g 92 #[.int .u64 (t.1.toNat : Int), .slice ea en en]) (hn : en = t.2.length) (h6 : en ≤ 1000000) (hat : At w ea t.2) : TOut (fun _ => True) w (some ⟨g, 0, none⟩) 1 1 [t] :=
  TOut.one hb ⟨rfl, hn, Nat.le_refl _, by show en ≤ _; omega, hat⟩
def constT (vars : Int) (c : UInt64) : List Tm := [(c, List.replicate vars.toNat 0)]
def varT (vars i : Int) : List Tm := [(1, (List.replicate vars.toNat (0 : Int)).set i.toNat 1)]
def varBad (vars i : Int) : Prop := vars < 0 ∨ 64 < vars ∨ i < 0 ∨ vars ≤ i
instance (vars i : Int) : Decidable (varBad vars i) := by unfold varBad; infer_instance
def varE (vars i : Int) : Int := if varBad vars i then 2 else mkE vars (varT vars i)
def varL (vars i : Int) : List Tm := if varBad vars i then [] else mkL vars (varT vars i)
def varV (vars i : Int) : Int := if varBad vars i then 0 else mkV vars (varT vars i)
set_option maxRecDepth 100000 in
set_option maxHeartbeats 3200000 in
theorem RConst_good (vn : Nat) (h64 : vn ≤ 64) (c : UInt64) (w : World) (V : Int) (L : List Tm) (E : Int) (hV : mkV (vn : Int) (constT (vn : Int) c) = V) (hL : mkL (vn : Int) (constT (vn : Int) c) = L) (hE : mkE (vn : Int) (constT (vn : Int) c) = E) :
    Calls Tryz.prog 113 #[.int .i64 (vn : Int), .int .u64 (c.toNat : Int)] w (PolyOut V L E w) := by
  have hb0 := below_box w (.cells #[.int .i64 0, .slice none 0 0] 42)
  have hX := Blk.new w 42 #[.int .i64 0, .slice none 0 0]
  have HZZ : Hid ((w.alloc (.cells #[.int .i64 0, .slice none 0 0] 42)).heap.size = w.heap.size + 1) := World.size_alloc _ _
  have h1 : ¬ (vn : Int) < 0 := by omega
  have h2 : ¬ 64 < (vn : Int) := by omega
  have h3 : (0 : Int) ≤ (vn : Int) := by omega
  have h4 : (vn : Int) ≤ 64 := by omega
  have h5 : min (vn : Int) 64 = (vn : Int) := by omega
  have hR : (List.replicate (vn : Int).toNat (0 : Int)).length = vn := by simp
  obtain ⟨t, ht1, ht2⟩ : ∃ t : Tm, c = t.1 ∧ t.2 = List.replicate (vn : Int).toNat 0 := ⟨(c, List.replicate (vn : Int).toNat 0), rfl, rfl⟩
  have hcT : constT (vn : Int) c = [t] := by unfold constT; rw [← ht2, ht1]
  rw [hcT] at hV hL hE
  subst ht1
  have HT := hide ht2
  have HMK := hide (fun (W : World) (g : Nat) (k : TOut (fun _ => True) W (some ⟨g, 0, none⟩) 1 1 [t]) => RMake_calls (fun _ => True) (vn : Int) (some ⟨g, 0, none⟩) 1 1 [t] W k (by decide) (fun s hs => by rw [List.mem_singleton.1 hs, HT.out, hR]; omega) V L E hV hL hE)
  have hlen : t.2.length = vn := by rw [ht2, hR]
  have HLN := hide hlen
  rw [Int.toNat_natCast] at HT
  clear hcT ht2 hlen hR hV hL hE
  go_enter Tryz.func113, Tryz.ntmps113
  go_wp2_with (first
    | (at_make; go_must (refine wpList_mk tyI03 (B := (w.alloc (.cells #[.int .i64 0, .slice none 0 0] 42)).heap.size) (n := vn) rfl rfl rfl rfl rfl rfl (Nat.le_refl _) (by omega) ?_; intro w3 hown3 hg3; rw [HZZ.out] at hown3; have hb3 := below_of_grown hg3; have hB3 := hb0.trans (hb3.mono hb0.size); have hX3 := hX.belowN hb3; have hz3 := hb3.size; have hbx := below_box w3 (.cells #[.int .u64 (t.1.toNat : Int), .slice (some ⟨w.heap.size + 1, 0, none⟩) vn vn] 92); have hB4 := hB3.trans (hbx.mono hB3.size); have hX4 := hX3.belowN hbx))
    | (go_at_call 91; go_must ((refine (HMK.out _ _ (TOut.one_ (Blk.new w3 _ #[.int .u64 (t.1.toNat : Int), .slice _ vn vn]) HLN.out.symm (by omega) (by rw [HT.out]; exact (hown3.alloc _).at_))).mono ?_); rintro v w5 ⟨a5, n5, c5, rfl, hT5, hb5⟩; have hB5 := hB4.trans (hb5.mono hB4.size); have hX5 := hX4.belowN hb5; obtain ⟨x0, x1, x2, x3⟩ := hX5.c2)))
  have hF6 := (hX5.set_ 0 (.int .i64 V)).set_ 1 (.slice a5 n5 c5)
  refine bodyPost_ret (results_rowP rfl _ _ (w.heap.size) _ #[.int .i64 V, .slice a5 n5 c5] (0, 0) _ rfl hF6 Tryz.underlying42 rfl (by kernel_rfl)) rfl ?_
  exact PolyOut.stored hB5 hT5 (Nat.le_refl _) (by rw [World.size_alloc] at hz3; rw [World.size_alloc]; omega) (by rw [World.size_alloc] at hz3; rw [World.size_alloc]; omega)
set_option maxRecDepth 100000 in
set_option maxHeartbeats 3200000 in
theorem PConst_good (vn : Nat) (h64 : vn ≤ 64) (c : UInt64) (w : World) (V : Int) (L : List Tm) (E : Int) (hV : mkV (vn : Int) (constT (vn : Int) c) = V) (hL : mkL (vn : Int) (constT (vn : Int) c) = L) (hE : mkE (vn : Int) (constT (vn : Int) c) = E) :
    Calls Tryz.prog 111 #[.int .i64 (vn : Int), .int .u64 (c.toNat : Int)] w (PolyOut V L E w) := by
  have hb0 := below_box w (.cells #[.int .i64 0, .slice none 0 0] 42)
  have hX := Blk.new w 42 #[.int .i64 0, .slice none 0 0]
  have HZZ : Hid ((w.alloc (.cells #[.int .i64 0, .slice none 0 0] 42)).heap.size = w.heap.size + 1) := World.size_alloc _ _
  have h1 : ¬ (vn : Int) < 0 := by omega
  have h2 : ¬ 64 < (vn : Int) := by omega
  have h3 : (0 : Int) ≤ (vn : Int) := by omega
  have h4 : (vn : Int) ≤ 64 := by omega
  have h5 : min (vn : Int) 64 = (vn : Int) := by omega
  have hR : (List.replicate (vn : Int).toNat (0 : Int)).length = vn := by simp
  obtain ⟨t, ht1, ht2⟩ : ∃ t : Tm, c = t.1 ∧ t.2 = List.replicate (vn : Int).toNat 0 := ⟨(c, List.replicate (vn : Int).toNat 0), rfl, rfl⟩
  have hcT : constT (vn : Int) c = [t] := by unfold constT; rw [← ht2, ht1]
  rw [hcT] at hV hL hE
  subst ht1
  have HT := hide ht2
  have HMK := hide (fun (W : World) (g : Nat) (k : TOut (fun _ => True) W (some ⟨g, 0, none⟩) 1 1 [t]) => PMake_calls (fun _ => True) (vn : Int) (some ⟨g, 0, none⟩) 1 1 [t] W k (by decide) (fun s hs => by rw [List.mem_singleton.1 hs, HT.out, hR]; omega) V L E hV hL hE)
  have hlen : t.2.length = vn := by rw [ht2, hR]
  have HLN := hide hlen
  rw [Int.toNat_natCast] at HT
  clear hcT ht2 hlen hR hV hL hE
  go_enter Tryz.func111, Tryz.ntmps111
  go_wp2_with (first
    | (at_make; go_must (refine wpList_mk tyI03 (B := (w.alloc (.cells #[.int .i64 0, .slice none 0 0] 42)).heap.size) (n := vn) rfl rfl rfl rfl rfl rfl (Nat.le_refl _) (by omega) ?_; intro w3 hown3 hg3; rw [HZZ.out] at hown3; have hb3 := below_of_grown hg3; have hB3 := hb0.trans (hb3.mono hb0.size); have hX3 := hX.belowN hb3; have hz3 := hb3.size; have hbx := below_box w3 (.cells #[.int .u64 (t.1.toNat : Int), .slice (some ⟨w.heap.size + 1, 0, none⟩) vn vn] 92); have hB4 := hB3.trans (hbx.mono hB3.size); have hX4 := hX3.belowN hbx))
    | (go_at_call 84; go_must ((refine (HMK.out _ _ (TOut.one_ (Blk.new w3 _ #[.int .u64 (t.1.toNat : Int), .slice _ vn vn]) HLN.out.symm (by omega) (by rw [HT.out]; exact (hown3.alloc _).at_))).mono ?_); rintro v w5 ⟨a5, n5, c5, rfl, hT5, hb5⟩; have hB5 := hB4.trans (hb5.mono hB4.size); have hX5 := hX4.belowN hb5; obtain ⟨x0, x1, x2, x3⟩ := hX5.c2)))
  have hF6 := (hX5.set_ 0 (.int .i64 V)).set_ 1 (.slice a5 n5 c5)
  refine bodyPost_ret (results_rowP rfl _ _ (w.heap.size) _ #[.int .i64 V, .slice a5 n5 c5] (0, 0) _ rfl hF6 Tryz.underlying42 rfl (by kernel_rfl)) rfl ?_
  exact PolyOut.stored hB5 hT5 (Nat.le_refl _) (by rw [World.size_alloc] at hz3; rw [World.size_alloc]; omega) (by rw [World.size_alloc] at hz3; rw [World.size_alloc]; omega)
set_option maxRecDepth 100000 in
set_option maxHeartbeats 3200000 in
theorem RVar_calls (vars i : Int) (w : World) (V : Int) (L : List Tm) (E : Int) (hV : varV vars i = V) (hL : varL vars i = L) (hE : varE vars i = E) :
    Calls Tryz.prog 44 #[.int .i64 vars, .int .i64 i] w (PolyOut V L E w) := by
  have hb0 := below_box w (.cells #[.int .i64 0, .slice none 0 0] 42)
  have hX := Blk.new w 42 #[.int .i64 0, .slice none 0 0]
  have HZZ : Hid ((w.alloc (.cells #[.int .i64 0, .slice none 0 0] 42)).heap.size = w.heap.size + 1) := World.size_alloc _ _
  unfold varV at hV
  unfold varL at hL
  unfold varE at hE
  by_cases hv : varBad vars i
  case pos =>
    rw [if_pos hv] at hV hL hE
    subst hV hL hE
    have fin : ∀ (a : Act), a.tmps.getD 4 undef = .pointer (some ⟨w.heap.size, 0, none⟩) → True := fun _ _ => trivial
    unfold varBad at hv
    by_cases h1 : vars < 0
    · clear hv fin
      go_enter Tryz.func44, Tryz.ntmps44
      go_wp2
      refine bodyPost_ret (results_rowP rfl _ _ (w.heap.size) _ #[.int .i64 0, .slice none 0 0] (0, 0) _ rfl hX Tryz.underlying42 rfl (by kernel_rfl)) rfl ?_
      exact PolyOut.bad _ _ _ hb0
    · by_cases h2 : 64 < vars
      · clear hv fin
        go_enter Tryz.func44, Tryz.ntmps44
        go_wp2
        refine bodyPost_ret (results_rowP rfl _ _ (w.heap.size) _ #[.int .i64 0, .slice none 0 0] (0, 0) _ rfl hX Tryz.underlying42 rfl (by kernel_rfl)) rfl ?_
        exact PolyOut.bad _ _ _ hb0
      · by_cases h3 : i < 0
        · clear hv fin
          go_enter Tryz.func44, Tryz.ntmps44
          go_wp2
          refine bodyPost_ret (results_rowP rfl _ _ (w.heap.size) _ #[.int .i64 0, .slice none 0 0] (0, 0) _ rfl hX Tryz.underlying42 rfl (by kernel_rfl)) rfl ?_
          exact PolyOut.bad _ _ _ hb0
        · have h4 : vars ≤ i := by omega
          clear hv fin
          go_enter Tryz.func44, Tryz.ntmps44
          go_wp2
          refine bodyPost_ret (results_rowP rfl _ _ (w.heap.size) _ #[.int .i64 0, .slice none 0 0] (0, 0) _ rfl hX Tryz.underlying42 rfl (by kernel_rfl)) rfl ?_
          exact PolyOut.bad _ _ _ hb0
  case neg =>
    rw [if_neg hv] at hV hL hE
    have hv' : 0 ≤ vars ∧ vars ≤ 64 ∧ 0 ≤ i ∧ i < vars := by unfold varBad at hv; omega
    obtain ⟨vn, rfl⟩ : ∃ vn : Nat, vars = vn := ⟨vars.toNat, by omega⟩
    obtain ⟨k, rfl⟩ : ∃ k : Nat, i = k := ⟨i.toNat, by omega⟩
    have h1 : ¬ (vn : Int) < 0 := by omega
    have h2 : ¬ 64 < (vn : Int) := by omega
    have h3 : ¬ (k : Int) < 0 := by omega
    have h4 : ¬ (vn : Int) ≤ (k : Int) := by omega
    have h5 : (0 : Int) ≤ (k : Int) := by omega
    have h6 : (k : Int) < (vn : Int) := by omega
    have h7 : k < vn := by omega
    have h8 : vn ≤ 64 := by omega
    obtain ⟨t, ht1, ht2⟩ : ∃ t : Tm, t.1 = 1 ∧ t.2 = (List.replicate vn (0 : Int)).set k 1 := ⟨(1, (List.replicate vn (0 : Int)).set k 1), rfl, rfl⟩
    have hcT : varT (vn : Int) (k : Int) = [t] := by unfold varT; rw [Int.toNat_natCast, Int.toNat_natCast, ← ht2, ← ht1]
    rw [hcT] at hV hL hE
    have HT := hide ht2
    have hlen : t.2.length = vn := by rw [ht2]; simp
    have HLN := hide hlen
    have HMK := hide (fun (W : World) (g : Nat) (k : TOut (fun _ => True) W (some ⟨g, 0, none⟩) 1 1 [t]) => RMake_calls (fun _ => True) (vn : Int) (some ⟨g, 0, none⟩) 1 1 [t] W k (by decide) (fun s hs => by rw [List.mem_singleton.1 hs, HLN.out]; omega) V L E hV hL hE)
    have h1t : (t.1.toNat : Int) = 1 := by rw [ht1]; rfl
    have H1T := hide h1t
    clear hcT ht1 ht2 hlen hV hL hE h1t hv hv'
    go_enter Tryz.func44, Tryz.ntmps44
    go_wp2_with (first
      | (at_make; go_must (refine wpList_mk tyI03 (B := (w.alloc (.cells #[.int .i64 0, .slice none 0 0] 42)).heap.size) (n := vn) rfl rfl rfl rfl rfl rfl (Nat.le_refl _) (by omega) ?_; intro w3 hown3 hg3; rw [HZZ.out] at hown3; have hb3 := below_of_grown hg3; have hB3 := hb0.trans (hb3.mono hb0.size); have hX3 := hX.belowN hb3; have hz3 := hb3.size; have hfz := hown3.frozen k; obtain ⟨z, zu, hz1, hz2, hz4⟩ := hown3.cell1 (i := k) (by simpa using h7) rfl; have hown4 := hown3.set1 k (1 : Int) (.int .i64 1) rfl; have hBN := (fun (cs : Array Value) (T : TypeId) => (World.size_setCell w3 ⟨w.heap.size + 1, k, none⟩ (.int .i64 1)) ▸ Blk.new (w3.setCell ⟨w.heap.size + 1, k, none⟩ (.int .i64 1)) T cs); have hX4 := hX3.far (p := ⟨w.heap.size + 1, k, none⟩) (by simp) (.int .i64 1); have hB4 := hB3.setCell (p := ⟨w.heap.size + 1, k, none⟩) (by simp) (.int .i64 1)))
      | (go_at_call 91; go_must ((refine (HMK.out _ _ (TOut.one_ (by rw [H1T.out]; exact hBN _ _) HLN.out.symm (by omega) (by rw [HT.out]; exact (hown4.alloc _).at_))).mono ?_); rintro v w5 ⟨a5, n5, c5, rfl, hT5, hb5⟩; have hbx := below_box (w3.setCell ⟨w.heap.size + 1, k, none⟩ (.int .i64 1)) (.cells #[.int .u64 1, .slice (some ⟨w.heap.size + 1, 0, none⟩) vn vn] 92); have hB9 := hB4.trans (hbx.mono hB4.size); have hB5 := hB9.trans (hb5.mono hB9.size); have hX5 := (hX4.belowN hbx).belowN hb5; obtain ⟨x0, x1, x2, x3⟩ := hX5.c2)))
    have hF6 := (hX5.set_ 0 (.int .i64 V)).set_ 1 (.slice a5 n5 c5)
    refine bodyPost_ret (results_rowP rfl _ _ (w.heap.size) _ #[.int .i64 V, .slice a5 n5 c5] (0, 0) _ rfl hF6 Tryz.underlying42 rfl (by kernel_rfl)) rfl ?_
    exact PolyOut.stored hB5 hT5 (Nat.le_refl _) (hX4.belowN hbx).lt hB9.size
set_option maxRecDepth 100000 in
set_option maxHeartbeats 3200000 in
theorem PVar_calls (vars i : Int) (w : World) (V : Int) (L : List Tm) (E : Int) (hV : varV vars i = V) (hL : varL vars i = L) (hE : varE vars i = E) :
    Calls Tryz.prog 41 #[.int .i64 vars, .int .i64 i] w (PolyOut V L E w) := by
  have hb0 := below_box w (.cells #[.int .i64 0, .slice none 0 0] 42)
  have hX := Blk.new w 42 #[.int .i64 0, .slice none 0 0]
  have HZZ : Hid ((w.alloc (.cells #[.int .i64 0, .slice none 0 0] 42)).heap.size = w.heap.size + 1) := World.size_alloc _ _
  unfold varV at hV
  unfold varL at hL
  unfold varE at hE
  by_cases hv : varBad vars i
  case pos =>
    rw [if_pos hv] at hV hL hE
    subst hV hL hE
    have fin : ∀ (a : Act), a.tmps.getD 4 undef = .pointer (some ⟨w.heap.size, 0, none⟩) → True := fun _ _ => trivial
    unfold varBad at hv
    by_cases h1 : vars < 0
    · clear hv fin
      go_enter Tryz.func41, Tryz.ntmps41
      go_wp2
      refine bodyPost_ret (results_rowP rfl _ _ (w.heap.size) _ #[.int .i64 0, .slice none 0 0] (0, 0) _ rfl hX Tryz.underlying42 rfl (by kernel_rfl)) rfl ?_
      exact PolyOut.bad _ _ _ hb0
    · by_cases h2 : 64 < vars
      · clear hv fin
        go_enter Tryz.func41, Tryz.ntmps41
        go_wp2
        refine bodyPost_ret (results_rowP rfl _ _ (w.heap.size) _ #[.int .i64 0, .slice none 0 0] (0, 0) _ rfl hX Tryz.underlying42 rfl (by kernel_rfl)) rfl ?_
        exact PolyOut.bad _ _ _ hb0
      · by_cases h3 : i < 0
        · clear hv fin
          go_enter Tryz.func41, Tryz.ntmps41
          go_wp2
          refine bodyPost_ret (results_rowP rfl _ _ (w.heap.size) _ #[.int .i64 0, .slice none 0 0] (0, 0) _ rfl hX Tryz.underlying42 rfl (by kernel_rfl)) rfl ?_
          exact PolyOut.bad _ _ _ hb0
        · have h4 : vars ≤ i := by omega
          clear hv fin
          go_enter Tryz.func41, Tryz.ntmps41
          go_wp2
          refine bodyPost_ret (results_rowP rfl _ _ (w.heap.size) _ #[.int .i64 0, .slice none 0 0] (0, 0) _ rfl hX Tryz.underlying42 rfl (by kernel_rfl)) rfl ?_
          exact PolyOut.bad _ _ _ hb0
  case neg =>
    rw [if_neg hv] at hV hL hE
    have hv' : 0 ≤ vars ∧ vars ≤ 64 ∧ 0 ≤ i ∧ i < vars := by unfold varBad at hv; omega
    obtain ⟨vn, rfl⟩ : ∃ vn : Nat, vars = vn := ⟨vars.toNat, by omega⟩
    obtain ⟨k, rfl⟩ : ∃ k : Nat, i = k := ⟨i.toNat, by omega⟩
    have h1 : ¬ (vn : Int) < 0 := by omega
    have h2 : ¬ 64 < (vn : Int) := by omega
    have h3 : ¬ (k : Int) < 0 := by omega
    have h4 : ¬ (vn : Int) ≤ (k : Int) := by omega
    have h5 : (0 : Int) ≤ (k : Int) := by omega
    have h6 : (k : Int) < (vn : Int) := by omega
    have h7 : k < vn := by omega
    have h8 : vn ≤ 64 := by omega
    obtain ⟨t, ht1, ht2⟩ : ∃ t : Tm, t.1 = 1 ∧ t.2 = (List.replicate vn (0 : Int)).set k 1 := ⟨(1, (List.replicate vn (0 : Int)).set k 1), rfl, rfl⟩
    have hcT : varT (vn : Int) (k : Int) = [t] := by unfold varT; rw [Int.toNat_natCast, Int.toNat_natCast, ← ht2, ← ht1]
    rw [hcT] at hV hL hE
    have HT := hide ht2
    have hlen : t.2.length = vn := by rw [ht2]; simp
    have HLN := hide hlen
    have HMK := hide (fun (W : World) (g : Nat) (k : TOut (fun _ => True) W (some ⟨g, 0, none⟩) 1 1 [t]) => PMake_calls (fun _ => True) (vn : Int) (some ⟨g, 0, none⟩) 1 1 [t] W k (by decide) (fun s hs => by rw [List.mem_singleton.1 hs, HLN.out]; omega) V L E hV hL hE)
    have h1t : (t.1.toNat : Int) = 1 := by rw [ht1]; rfl
    have H1T := hide h1t
    clear hcT ht1 ht2 hlen hV hL hE h1t hv hv'
    go_enter Tryz.func41, Tryz.ntmps41
    go_wp2_with (first
      | (at_make; go_must (refine wpList_mk tyI03 (B := (w.alloc (.cells #[.int .i64 0, .slice none 0 0] 42)).heap.size) (n := vn) rfl rfl rfl rfl rfl rfl (Nat.le_refl _) (by omega) ?_; intro w3 hown3 hg3; rw [HZZ.out] at hown3; have hb3 := below_of_grown hg3; have hB3 := hb0.trans (hb3.mono hb0.size); have hX3 := hX.belowN hb3; have hz3 := hb3.size; have hfz := hown3.frozen k; obtain ⟨z, zu, hz1, hz2, hz4⟩ := hown3.cell1 (i := k) (by simpa using h7) rfl; have hown4 := hown3.set1 k (1 : Int) (.int .i64 1) rfl; have hBN := (fun (cs : Array Value) (T : TypeId) => (World.size_setCell w3 ⟨w.heap.size + 1, k, none⟩ (.int .i64 1)) ▸ Blk.new (w3.setCell ⟨w.heap.size + 1, k, none⟩ (.int .i64 1)) T cs); have hX4 := hX3.far (p := ⟨w.heap.size + 1, k, none⟩) (by simp) (.int .i64 1); have hB4 := hB3.setCell (p := ⟨w.heap.size + 1, k, none⟩) (by simp) (.int .i64 1)))
      | (go_at_call 84; go_must ((refine (HMK.out _ _ (TOut.one_ (by rw [H1T.out]; exact hBN _ _) HLN.out.symm (by omega) (by rw [HT.out]; exact (hown4.alloc _).at_))).mono ?_); rintro v w5 ⟨a5, n5, c5, rfl, hT5, hb5⟩; have hbx := below_box (w3.setCell ⟨w.heap.size + 1, k, none⟩ (.int .i64 1)) (.cells #[.int .u64 1, .slice (some ⟨w.heap.size + 1, 0, none⟩) vn vn] 92); have hB9 := hB4.trans (hbx.mono hB4.size); have hB5 := hB9.trans (hb5.mono hB9.size); have hX5 := (hX4.belowN hbx).belowN hb5; obtain ⟨x0, x1, x2, x3⟩ := hX5.c2)))
    have hF6 := (hX5.set_ 0 (.int .i64 V)).set_ 1 (.slice a5 n5 c5)
    refine bodyPost_ret (results_rowP rfl _ _ (w.heap.size) _ #[.int .i64 V, .slice a5 n5 c5] (0, 0) _ rfl hF6 Tryz.underlying42 rfl (by kernel_rfl)) rfl ?_
    exact PolyOut.stored hB5 hT5 (Nat.le_refl _) (hX4.belowN hbx).lt hB9.size
theorem RConst_calls (vars : Int) (c : UInt64) (w : World) (V : Int) (L : List Tm) (E : Int) (hV : mkV vars (constT vars c) = V) (hL : mkL vars (constT vars c) = L) (hE : mkE vars (constT vars c) = E) :
    Calls Tryz.prog 113 #[.int .i64 vars, .int .u64 (c.toNat : Int)] w (PolyOut V L E w) := by
  by_cases hv : vars < 0 ∨ 64 < vars
  case pos =>
    have hb0 := below_box w (.cells #[.int .i64 0, .slice none 0 0] 42)
    have hX := Blk.new w 42 #[.int .i64 0, .slice none 0 0]
    obtain ⟨q1, q2, q3⟩ := mk_bad hv (constT vars c)
    rw [q1] at hE
    rw [q2] at hV
    rw [q3] at hL
    subst hE hV hL
    by_cases h1 : vars < 0
    · go_enter Tryz.func113, Tryz.ntmps113
      go_wp2
      refine bodyPost_ret (results_rowP rfl _ _ (w.heap.size) _ #[.int .i64 0, .slice none 0 0] (0, 0) _ rfl hX Tryz.underlying42 rfl (by kernel_rfl)) rfl ?_
      exact PolyOut.bad _ _ _ hb0
    · have h2 : 64 < vars := by omega
      go_enter Tryz.func113, Tryz.ntmps113
      go_wp2
      refine bodyPost_ret (results_rowP rfl _ _ (w.heap.size) _ #[.int .i64 0, .slice none 0 0] (0, 0) _ rfl hX Tryz.underlying42 rfl (by kernel_rfl)) rfl ?_
      exact PolyOut.bad _ _ _ hb0
  case neg =>
    obtain ⟨vn, rfl⟩ : ∃ vn : Nat, vars = vn := ⟨vars.toNat, by omega⟩
    exact RConst_good vn (by omega) c w V L E hV hL hE
set_option maxRecDepth 100000 in
set_option maxHeartbeats 3200000 in
theorem PConst_low (vars : Int) (h1 : vars < 0) (h2 : max vars 0 = 0) (c : UInt64) (w : World) :
    Calls Tryz.prog 111 #[.int .i64 vars, .int .u64 (c.toNat : Int)] w (PolyOut 0 [] 2 w) := by
  have hb0 := below_box w (.cells #[.int .i64 0, .slice none 0 0] 42)
  have hX := Blk.new w 42 #[.int .i64 0, .slice none 0 0]
  have HZZ : Hid ((w.alloc (.cells #[.int .i64 0, .slice none 0 0] 42)).heap.size = w.heap.size + 1) := World.size_alloc _ _
  obtain ⟨t, ht1, ht2⟩ : ∃ t : Tm, c = t.1 ∧ t.2 = List.replicate 0 0 := ⟨(c, List.replicate 0 0), rfl, rfl⟩
  subst ht1
  have HT := hide ht2
  have hlen : t.2.length = 0 := by rw [ht2]; rfl
  have HLN := hide hlen
  obtain ⟨q1, q2, q3⟩ := mk_bad (vars := vars) (by omega) [t]
  have HMK := hide (fun (W : World) (g : Nat) (k : TOut (fun _ => True) W (some ⟨g, 0, none⟩) 1 1 [t]) => PMake_calls (fun _ => True) vars (some ⟨g, 0, none⟩) 1 1 [t] W k (by decide) (fun s hs => by rw [List.mem_singleton.1 hs, HLN.out]; omega) 0 [] 2 q2 q3 q1)
  clear ht2 hlen q1 q2 q3
  go_enter Tryz.func111, Tryz.ntmps111
  go_wp2_with (first
    | (at_make; go_must (refine wpList_mk tyI03 (B := (w.alloc (.cells #[.int .i64 0, .slice none 0 0] 42)).heap.size) (n := 0) rfl rfl rfl rfl rfl rfl (Nat.le_refl _) (by omega) ?_; intro w3 hown3 hg3; rw [HZZ.out] at hown3; have hb3 := below_of_grown hg3; have hB3 := hb0.trans (hb3.mono hb0.size); have hX3 := hX.belowN hb3; have hz3 := hb3.size; have hbx := below_box w3 (.cells #[.int .u64 (t.1.toNat : Int), .slice (some ⟨w.heap.size + 1, 0, none⟩) 0 0] 92); have hB4 := hB3.trans (hbx.mono hB3.size); have hX4 := hX3.belowN hbx))
    | (go_at_call 84; go_must ((refine (HMK.out _ _ (TOut.one_ (Blk.new w3 _ #[.int .u64 (t.1.toNat : Int), .slice _ 0 0]) HLN.out.symm (by omega) (by rw [HT.out]; exact (hown3.alloc _).at_))).mono ?_); rintro v w5 ⟨a5, n5, c5, rfl, hT5, hb5⟩; have hB5 := hB4.trans (hb5.mono hB4.size); have hX5 := hX4.belowN hb5; obtain ⟨x0, x1, x2, x3⟩ := hX5.c2)))
  have hF6 := (hX5.set_ 0 (.int .i64 0)).set_ 1 (.slice a5 n5 c5)
  refine bodyPost_ret (results_rowP rfl _ _ (w.heap.size) _ #[.int .i64 0, .slice a5 n5 c5] (0, 0) _ rfl hF6 Tryz.underlying42 rfl (by kernel_rfl)) rfl ?_
  exact PolyOut.stored hB5 hT5 (Nat.le_refl _) (by rw [World.size_alloc] at hz3; rw [World.size_alloc]; omega) (by rw [World.size_alloc] at hz3; rw [World.size_alloc]; omega)
set_option maxRecDepth 100000 in
set_option maxHeartbeats 3200000 in
theorem PConst_high (vars : Int) (h1 : 64 < vars) (h2 : max vars 0 = vars) (h3 : min vars 64 = 64) (c : UInt64) (w : World) :
    Calls Tryz.prog 111 #[.int .i64 vars, .int .u64 (c.toNat : Int)] w (PolyOut 0 [] 2 w) := by
  have hb0 := below_box w (.cells #[.int .i64 0, .slice none 0 0] 42)
  have hX := Blk.new w 42 #[.int .i64 0, .slice none 0 0]
  have HZZ : Hid ((w.alloc (.cells #[.int .i64 0, .slice none 0 0] 42)).heap.size = w.heap.size + 1) := World.size_alloc _ _
  obtain ⟨t, ht1, ht2⟩ : ∃ t : Tm, c = t.1 ∧ t.2 = List.replicate 64 0 := ⟨(c, List.replicate 64 0), rfl, rfl⟩
  subst ht1
  have HT := hide ht2
  have hlen : t.2.length = 64 := by rw [ht2]; rfl
  have HLN := hide hlen
  obtain ⟨q1, q2, q3⟩ := mk_bad (vars := vars) (by omega) [t]
  have HMK := hide (fun (W : World) (g : Nat) (k : TOut (fun _ => True) W (some ⟨g, 0, none⟩) 1 1 [t]) => PMake_calls (fun _ => True) vars (some ⟨g, 0, none⟩) 1 1 [t] W k (by decide) (fun s hs => by rw [List.mem_singleton.1 hs, HLN.out]; omega) 0 [] 2 q2 q3 q1)
  clear ht2 hlen q1 q2 q3
  go_enter Tryz.func111, Tryz.ntmps111
  go_wp2_with (first
    | (at_make; go_must (refine wpList_mk tyI03 (B := (w.alloc (.cells #[.int .i64 0, .slice none 0 0] 42)).heap.size) (n := 64) rfl rfl rfl rfl rfl rfl (Nat.le_refl _) (by omega) ?_; intro w3 hown3 hg3; rw [HZZ.out] at hown3; have hb3 := below_of_grown hg3; have hB3 := hb0.trans (hb3.mono hb0.size); have hX3 := hX.belowN hb3; have hz3 := hb3.size; have hbx := below_box w3 (.cells #[.int .u64 (t.1.toNat : Int), .slice (some ⟨w.heap.size + 1, 0, none⟩) 64 64] 92); have hB4 := hB3.trans (hbx.mono hB3.size); have hX4 := hX3.belowN hbx))
    | (go_at_call 84; go_must ((refine (HMK.out _ _ (TOut.one_ (Blk.new w3 _ #[.int .u64 (t.1.toNat : Int), .slice _ 64 64]) HLN.out.symm (by omega) (by rw [HT.out]; exact (hown3.alloc _).at_))).mono ?_); rintro v w5 ⟨a5, n5, c5, rfl, hT5, hb5⟩; have hB5 := hB4.trans (hb5.mono hB4.size); have hX5 := hX4.belowN hb5; obtain ⟨x0, x1, x2, x3⟩ := hX5.c2)))
  have hF6 := (hX5.set_ 0 (.int .i64 0)).set_ 1 (.slice a5 n5 c5)
  refine bodyPost_ret (results_rowP rfl _ _ (w.heap.size) _ #[.int .i64 0, .slice a5 n5 c5] (0, 0) _ rfl hF6 Tryz.underlying42 rfl (by kernel_rfl)) rfl ?_
  exact PolyOut.stored hB5 hT5 (Nat.le_refl _) (by rw [World.size_alloc] at hz3; rw [World.size_alloc]; omega) (by rw [World.size_alloc] at hz3; rw [World.size_alloc]; omega)
theorem PConst_calls (vars : Int) (c : UInt64) (w : World) (V : Int) (L : List Tm) (E : Int) (hV : mkV vars (constT vars c) = V) (hL : mkL vars (constT vars c) = L) (hE : mkE vars (constT vars c) = E) :
    Calls Tryz.prog 111 #[.int .i64 vars, .int .u64 (c.toNat : Int)] w (PolyOut V L E w) := by
  by_cases hv : vars < 0 ∨ 64 < vars
  case pos =>
    obtain ⟨q1, q2, q3⟩ := mk_bad hv (constT vars c)
    rw [q1] at hE
    rw [q2] at hV
    rw [q3] at hL
    subst hE hV hL
    by_cases h1 : vars < 0
    · exact PConst_low vars h1 (by omega) c w
    · exact PConst_high vars (by omega) (by omega) (by omega) c w
  case neg =>
    obtain ⟨vn, rfl⟩ : ∃ vn : Nat, vars = vn := ⟨vars.toNat, by omega⟩
    exact PConst_good vn (by omega) c w V L E hV hL hE
end Go.Proofs.YtcamcnahkdiefaaGreat

/- slices.Concat of terms; slices.Clone of powers. -/
namespace Go.Proofs.YtcamcnahkdiefaaGreat
set_option linter.unusedVariables false
set_option linter.unusedSimpArgs false
open Go.RowKit Go.Lib
set_option maxHeartbeats 1600000 in
theorem GrowT_calls (n : Nat) (hn : n ≤ 1000000000) (w : World) :
    Calls Tryz.prog 202 #[.slice none 0 0, .int .i64 n] w fun e w' => ∃ a' c', e = .returned (.slice a' 0 c') ∧ Own w' w.heap.size 92 a' c' ([] : List TmH) ∧ Below w.heap.size w w' := by
  rcases Nat.eq_zero_or_pos n with rfl | h0
  · go_enter Tryz.func202, Tryz.ntmps202
    go_wp2
    go_ret
    exact ⟨none, 0, rfl, Own.none _ _ _, Below.refl _ _⟩
  · have h1 : ¬ ((n : Int) < 0) := by omega
    have h2 : (n : Int) > 0 := by omega
    obtain ⟨i, hi, hz, hsz, hby⟩ : ∃ i, Tryz.prog.info? 92 = some i ∧ i.zero = some (.agg #[.int .u64 0, .slice none 0 0]) ∧ i.size = 2 ∧ i.bytes = 32 := by
      obtain ⟨i, q1, q2, q3, q4⟩ := info_parts (P := Tryz.prog) (show (Tryz.prog.info? 92).map (fun i => (i.zero, i.size, i.bytes)) = some (some (.agg #[.int .u64 0, .slice none 0 0]), 2, 32) by kernel_rfl)
      exact ⟨i, q1, q2, q3, q4⟩
    have hcap := grownCap_le_maxLen w n 0 92 (by simp only [maxLen]; omega)
    have hge := grownCap_ge w n 0 92
    have hrun := fun ty => run_append_nil_zeros w 40 3 ty 92 i (.agg #[.int .u64 0, .slice none 0 0]) .i64 .i64 Tryz.underlying40 Tryz.underlying3 hi hz n h0 (by omega) (by omega) (by rw [hby]; omega)
    obtain ⟨C, hC⟩ : ∃ C, grownCap w n 0 92 = C := ⟨_, rfl⟩
    rw [hC] at hcap hge hrun
    have HR := hide hrun
    clear hrun
    have hown : Own (w.drew.alloc (.cells (Builtin.zeroCells (Value.agg #[.int .u64 0, .slice none 0 0]).cells n ++ Builtin.zeroCells (Value.agg #[.int .u64 0, .slice none 0 0]).cells (C - n)) 92)) w.heap.size 92 (some ⟨w.heap.size, 0, none⟩) C ([] : List TmH) :=
      World.ownsRow_made w.drew _ C (Nat.le_refl _) hcap (by rw [Array.size_append, size_zeroCells, size_zeroCells]; show n * 2 + (C - n) * 2 = C * 2; omega)
    have hbel : Below w.heap.size w (w.drew.alloc (.cells (Builtin.zeroCells (Value.agg #[.int .u64 0, .slice none 0 0]).cells n ++ Builtin.zeroCells (Value.agg #[.int .u64 0, .slice none 0 0]).cells (C - n)) 92)) := (Below.drew (Below.refl _ _)).alloc (Nat.le_refl _) _
    have HO := hide hown
    have HB := hide hbel
    clear hown hbel hC
    go_enter Tryz.func202, Tryz.ntmps202
    go_wp2_with (at_builtin; refine Lib.wpList_append_run _ rfl _ _ _ _ rfl _ _ rfl rfl _ _ (HR.out _) ?_)
    go_ret
    exact ⟨_, C, rfl, HO.out, HB.out⟩
def AtHH (w : World) (a : Option Addr) (ls : List (List TmH)) : Prop := ∃ hs : List Hd, At w a hs ∧ hs.length = ls.length ∧ ∀ (i : Nat) (h : Hd) (l : List TmH), hs[i]? = some h → ls[i]? = some l → h.n = l.length ∧ h.n ≤ h.c ∧ h.c ≤ 9223372036854775807 ∧ At w h.a l
theorem AtHH.get {w wr : World} {a : Option Addr} {ls : List (List TmH)} (h : AtHH w a ls) (hb : Below w.heap.size w wr) {k : Nat} (hk : k < ls.length) :
    ∃ (b off : Nat) (ha : Option Addr) (hn hc : Nat) (l : List TmH), a = some ⟨b, off, none⟩ ∧ Hid (ls[k]? = some l) ∧ wr.cell? ⟨b, off + k, none⟩ = some (.slice ha hn hc) ∧ Hid (hn = l.length) ∧ hn ≤ hc ∧ hc ≤ 9223372036854775807 ∧ At wr ha l := by
  obtain ⟨hs, h1, h2, h3⟩ := h
  obtain ⟨b, off, y, e, hy, hc⟩ := (h1.belowN hb).get (k := k) (by omega)
  have ht : ls[k]? = some ls[k] := List.getElem?_eq_getElem hk
  obtain ⟨q1, q2, q3, q4⟩ := h3 k y _ hy.out ht
  exact ⟨b, off, y.a, y.n, y.c, ls[k], e, hide ht, by simpa [Flat.n] using hc 0 _ rfl, hide q1, q2, q3, q4.belowN hb⟩
theorem flatT_take {ls : List (List TmH)} {k : Nat} {l : List TmH} (h : ls[k]? = some l) : (ls.take (k + 1)).flatten = (ls.take k).flatten ++ l := by
  rw [List.take_add_one, h]; simp
theorem flatT_le (ls : List (List TmH)) (k : Nat) : (ls.take k).flatten.length ≤ ls.flatten.length := by
  conv => rhs; rw [← List.take_append_drop k ls]
  rw [List.flatten_append, List.length_append]; omega
set_option maxHeartbeats 1600000 in
theorem ConcatT_calls (a : Option Addr) (c n : Nat) (ls : List (List TmH)) (w : World) (hn : n = ls.length) (h : AtHH w a ls) (hl : n ≤ 1000000) (hf : ls.flatten.length ≤ 1000000000) (N : Nat) (hN : N = ls.flatten.length) :
    Calls Tryz.prog 187 #[.slice a n c] w fun e w' => ∃ a' c', e = .returned (.slice a' N c') ∧ Own w' w.heap.size 92 a' c' ls.flatten ∧ Below w.heap.size w w' := by
  have HN := hide hn
  have HF := hide hf
  have HNN := hide hN
  have HL := hide (flatT_le ls)
  clear hn hf hN
  go_enter Tryz.func187, Tryz.ntmps187
  go_wp2
  go_loopw [3, 5, 11] (fun sz _ iv wr => ∃ k m : Nat, iv = .int .i64 k ∧ k ≤ n ∧ sz = .int .i64 m ∧ Hid (m = (ls.take k).flatten.length) ∧ wr = w) (fun _ _ iv _ => n - (intOf iv).toNat)
  case atStart => exact ⟨0, 0, rfl, by omega, rfl, by show _ = _; simp, rfl⟩
  case round =>
    obtain ⟨k, m, rfl, hk, rfl, hm, rfl⟩ := hrel
    by_cases hkn : k < n
    · obtain ⟨b, off, ha, hl', hc, l, rfl, hx, x0, hln, hcap, hmx, hat⟩ := h.get (Below.refl _ _) (k := k) (by rw [← HN.out]; exact hkn)
      have HM := hide (show m + hl' = (ls.take (k + 1)).flatten.length by rw [flatT_take hx.out, List.length_append, hm.out, hln.out])
      have hle : m + hl' ≤ 1000000000 := by rw [HM.out]; exact Nat.le_trans (HL.out _) HF.out
      go_wp2
      go_roundw
      case rel => exact ⟨k + 1, m + hl', by go_num, by omega, by go_num, HM.out, trivial⟩
      case measure => simp [intOf]; omega
    · obtain rfl : n = k := by omega
      have hmN : N = m := by rw [hm.out, HN.out, List.take_length, HNN.out]
      have hNl : N ≤ 1000000000 := by rw [HNN.out]; exact HF.out
      subst hmN
      clear hm
      go_wp2_with (go_at_call 202; go_must ((with_reducible refine (GrowT_calls N hNl _).mono ?_); rintro e w1 ⟨a1, c1, rfl, hown1, hb1⟩))
      obtain ⟨w, rfl⟩ : ∃ w0 : World, w0 = wr := ⟨_, rfl⟩
      go_loopw [6, 8, 27] (fun ov _ iv wr => ∃ (k m : Nat) (ao : Option Addr) (co : Nat), iv = .int .i64 k ∧ k ≤ n ∧ ov = .slice ao m co ∧ Hid (m = (ls.take k).flatten.length) ∧ Own wr w.heap.size 92 ao co (ls.take k).flatten ∧ Below w.heap.size w wr) (fun _ _ iv _ => n - (intOf iv).toNat)
      case atStart => exact ⟨0, 0, _, _, rfl, by omega, rfl, by show _ = _; simp, by simpa using hown1, hb1⟩
      case round =>
        obtain ⟨k, m, ao, co, rfl, hk, rfl, hm, hown, hbr⟩ := hrel
        have hzr := hbr.size
        by_cases hkn : k < n
        · obtain ⟨b, off, ha, hl', hc, l, rfl, hx, x0, hln, hcap, hmx, hatr⟩ := h.get hbr (k := k) (by rw [← HN.out]; exact hkn)
          have HT := hide (flatT_take hx.out)
          have HM := hide (show m + hl' = (ls.take (k + 1)).flatten.length by rw [flatT_take hx.out, List.length_append, hm.out, hln.out])
          have hle : m + hl' ≤ 1000000000 := by rw [HM.out]; exact Nat.le_trans (HL.out _) HF.out
          go_wp2_with (at_builtin; refine wpList_pushAll tyT hown hatr rfl rfl rfl rfl hm.out hln.out hzr (by omega) (by omega) ?_; intro a3 c3 w3 hown3 hg3 _)
          go_roundw
          case rel => exact ⟨k + 1, m + hl', a3, c3, by go_num, by omega, rfl, HM.out, by rw [HT.out]; exact hown3, below_push hbr hown hg3 hzr⟩
          case measure => simp [intOf]; omega
        · obtain rfl : n = k := by omega
          have hmN : m = N := by rw [hm.out, HN.out, List.take_length, HNN.out]
          rw [HN.out, List.take_length] at hown
          subst hmN
          clear hm
          go_wp2
          go_ret
          exact ⟨ao, co, rfl, hown, hbr⟩
end Go.Proofs.YtcamcnahkdiefaaGreat

/- Sums of both sides; what no sum, product, negative or derivative is. -/
namespace Go.Proofs.YtcamcnahkdiefaaGreat
set_option linter.unusedVariables false
set_option linter.unusedSimpArgs false
open Go.RowKit
theorem three_boxes (w : World) (T1 T2 T3 : TypeId) (c1 c2 c3 : Array Value) : Blk (((w.alloc (.cells c1 T1)).alloc (.cells c2 T2)).alloc (.cells c3 T3)) w.heap.size T1 c1 ∧ Blk (((w.alloc (.cells c1 T1)).alloc (.cells c2 T2)).alloc (.cells c3 T3)) (w.heap.size + 1) T2 c2 ∧
    Blk (((w.alloc (.cells c1 T1)).alloc (.cells c2 T2)).alloc (.cells c3 T3)) (w.heap.size + 1 + 1) T3 c3 ∧ Below w.heap.size w (((w.alloc (.cells c1 T1)).alloc (.cells c2 T2)).alloc (.cells c3 T3)) ∧ (((w.alloc (.cells c1 T1)).alloc (.cells c2 T2)).alloc (.cells c3 T3)).heap.size = w.heap.size + 1 + 1 + 1 := by
  have h1 := Blk.new w T1 c1
  have h2 := Blk.new (w.alloc (.cells c1 T1)) T2 c2
  have h3 := Blk.new ((w.alloc (.cells c1 T1)).alloc (.cells c2 T2)) T3 c3
  rw [World.size_alloc] at h2
  rw [World.size_alloc, World.size_alloc] at h3
  exact ⟨(h1.alloc _).alloc _, h2.alloc _, h3, ((below_box w _).alloc (by simp) _).alloc (by simp; omega) _, by simp⟩
theorem two_boxes (w : World) (T1 T2 : TypeId) (c1 c2 : Array Value) : Blk ((w.alloc (.cells c1 T1)).alloc (.cells c2 T2)) w.heap.size T1 c1 ∧ Blk ((w.alloc (.cells c1 T1)).alloc (.cells c2 T2)) (w.heap.size + 1) T2 c2 ∧
    Below w.heap.size w ((w.alloc (.cells c1 T1)).alloc (.cells c2 T2)) ∧ ((w.alloc (.cells c1 T1)).alloc (.cells c2 T2)).heap.size = w.heap.size + 1 + 1 := by
  have h1 := Blk.new w T1 c1
  have h2 := Blk.new (w.alloc (.cells c1 T1)) T2 c2
  rw [World.size_alloc] at h2
  exact ⟨h1.alloc _, h2, (below_box w _).alloc (by simp) _, by simp⟩
theorem OkP.right {vars : Int} {n : Nat} {ts : List Tm} (h : OkP vars n ts) : rightL vars ts = true := List.all_eq_true.2 h.rt
theorem OkP.range {vars : Int} {n : Nat} {ts : List Tm} (h : OkP vars n ts) : ¬ (vars < 0 ∨ 64 < vars) := by have := h.v; have := h.n64; omega
theorem rightL_app {vars : Int} {a b : List Tm} (ha : rightL vars a = true) (hb : rightL vars b = true) : rightL vars (a ++ b) = true := by
  unfold rightL at *; rw [List.all_append, ha, hb]; rfl
theorem rightL_merge {vars : Int} {a b : List Tm} (ha : rightL vars a = true) (hb : rightL vars b = true) : rightL vars (mergeT a b) = true := by
  refine List.all_eq_true.2 fun t ht => ?_
  obtain ⟨_, s, hs, e⟩ := mem_merge a b t ht
  rw [← e]
  exact List.all_eq_true.1 (rightL_app ha hb) s hs
theorem mk_merge {vars : Int} {n m : Nat} {a b : List Tm} (ha : OkP vars n a) (hb : OkP vars m b) : mkE vars (mergeT a b) = mkE vars (a ++ b) ∧ mkV vars (mergeT a b) = mkV vars (a ++ b) ∧ mkL vars (mergeT a b) = mkL vars (a ++ b) := by
  have hnm : n = m := by have := ha.v; have := hb.v; omega
  subst hnm
  have e : mkE vars (mergeT a b) = mkE vars (a ++ b) := by
    unfold mkE
    rw [rightL_merge ha.right hb.right, rightL_app ha.right hb.right, sort_merge ha.can hb.can]
  exact ⟨e, by unfold mkV; rw [e], by unfold mkL; rw [e, sort_merge ha.can hb.can]⟩
end Go.Proofs.YtcamcnahkdiefaaGreat
