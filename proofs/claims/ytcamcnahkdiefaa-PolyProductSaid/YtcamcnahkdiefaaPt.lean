/- poly.Make. -/
import Derived.Test.YtcamcnahkdiefaaPs
namespace Go.Proofs.Ytcamcnahkdiefaa
set_option linter.unusedVariables false
set_option linter.unusedSimpArgs false
open Go.RowKit Go.Maps
theorem mk_ok {vars : Int} {l : List Tm} (h : ¬ (vars < 0 ∨ 64 < vars)) (hr : rightL vars l = true) : mkE vars l = allE l ∧ mkV vars l = allV vars l ∧ mkL vars l = allL l := by
  have e : mkE vars l = allE l := by unfold mkE allE; rw [if_neg h, hr]; rfl
  exact ⟨e, by unfold mkV allV; rw [e], by unfold mkL allL; rw [e]⟩
theorem mk_wrong {vars : Int} {l : List Tm} (h : ¬ (vars < 0 ∨ 64 < vars)) (hr : rightL vars l = false) : mkE vars l = 2 ∧ mkV vars l = 0 ∧ mkL vars l = [] := by
  have e : mkE vars l = 2 := by unfold mkE; rw [if_neg h, if_pos hr]
  exact ⟨e, by unfold mkV; rw [e]; rfl, by unfold mkL; rw [e]; rfl⟩
theorem rightL_in {vars : Int} {l : List Tm} (h : rightL vars l = true) : ∀ t ∈ l, InE t.2 := fun t ht => rightT_in (List.all_eq_true.1 h t ht)
theorem LenT.of_right {vars : Int} {l : List Tm} (h : ∀ t ∈ l, rightT vars t.2 = true) : LenT vars.toNat l := fun t ht => by have := rightT_len (h t ht); omega
theorem PolyOut.stored {w wc w5 : World} {g : Nat} {V E : Int} {L : List Tm} {a : Option Addr} {n c : Nat} (hb : Below w.heap.size w w5) (hT : TOut (fun q => wc.heap.size ≤ q) w5 a n c L) (h1 : w.heap.size ≤ g) (h2 : g < wc.heap.size) (h3 : w.heap.size ≤ wc.heap.size) :
    PolyOut V L E w (.returned (.tuple #[.agg #[.int .i64 V, .slice a n c], .int .i64 E])) ((w5.setCell ⟨g, 0, none⟩ (.int .i64 V)).setCell ⟨g, 1, none⟩ (.slice a n c)) :=
  ⟨a, n, c, rfl, ((hT.setCell _ (by omega)).setCell _ (by omega)).imp fun q hq => by omega, (hb.setCell (p := ⟨g, 0, none⟩) h1 _).setCell (p := ⟨g, 1, none⟩) h1 _⟩
theorem PolyOut.moved {w w1 w' : World} {V E : Int} {L : List Tm} {e : Ending} (hb : Below w.heap.size w w1) (h : PolyOut V L E w1 e w') : PolyOut V L E w e w' := by
  obtain ⟨a, n, c, rfl, hT, hb'⟩ := h
  exact ⟨a, n, c, rfl, hT.imp fun q hq => Nat.le_trans hb.size hq, hb.trans (hb'.mono hb.size)⟩
set_option maxRecDepth 100000 in
set_option maxHeartbeats 6400000 in
theorem PMake_calls (P : Nat → Prop) (vars : Int) (a : Option Addr) (n c : Nat) (ts : List Tm) (w : World) (h : TOut P w a n c ts) (hl : n ≤ 100000000) (hll : ∀ t ∈ ts, t.2.length ≤ 1000000) (V : Int) (L : List Tm) (E : Int) (hV : mkV vars ts = V) (hL : mkL vars ts = L) (hE : mkE vars ts = E) :
    Calls Try.prog 15 #[.int .i64 vars, .slice a n c] w (PolyOut V L E w) := by
  have hb0 := below_box w (.cells #[.int .i64 0, .slice none 0 0] 24)
  have hX := Blk.new w 24 #[.int .i64 0, .slice none 0 0]
  by_cases hv : vars < 0 ∨ 64 < vars
  case pos =>
    obtain ⟨q1, q2, q3⟩ := mk_bad hv ts
    rw [q1] at hE
    rw [q2] at hV
    rw [q3] at hL
    subst hE hV hL
    by_cases h1 : vars < 0
    · go_enter Try.func15, Try.ntmps15
      go_wp2
      refine bodyPost_ret (results_rowP rfl _ _ (w.heap.size) _ #[.int .i64 0, .slice none 0 0] (0, 0) _ rfl hX Try.underlying24 rfl (by kernel_rfl)) rfl ?_
      exact PolyOut.bad _ _ _ hb0
    · have h2 : 64 < vars := by omega
      go_enter Try.func15, Try.ntmps15
      go_wp2
      refine bodyPost_ret (results_rowP rfl _ _ (w.heap.size) _ #[.int .i64 0, .slice none 0 0] (0, 0) _ rfl hX Try.underlying24 rfl (by kernel_rfl)) rfl ?_
      exact PolyOut.bad _ _ _ hb0
  case neg =>
    have h1 : ¬ vars < 0 := by omega
    have h2 : ¬ 64 < vars := by omega
    have HN := hide h.len
    have HLL := hide hll
    have HV := hide hV
    have HL := hide hL
    have HE := hide hE
    have HNV := hide hv
    obtain ⟨Q, hQ⟩ : ∃ Q, rightL vars ts = Q := ⟨_, rfl⟩
    have HQ0 := hide hQ
    have HQ : Hid (rightL vars (ts.drop 0) = Q) := hQ
    have HP0 : Hid (rightL vars (ts.take 0) = true) := rfl
    have hat := h.at_.belowN hb0
    have hh := Heap_calls vars.toNat vars (w.alloc (.cells #[.int .i64 0, .slice none 0 0] 24))
    obtain ⟨g, hg⟩ : ∃ g, (w.alloc (.cells #[.int .i64 0, .slice none 0 0] 24)).heap.size = g := ⟨_, rfl⟩
    rw [hg] at hh
    have HH := hide hh
    have hgw : w.heap.size < g := by rw [← hg, World.size_alloc]; omega
    have HG := hide hg
    clear hE hV hL hll hv hQ hh hg
    go_enter Try.func15, Try.ntmps15
    go_wp2_with (go_at_call 32; go_must ((with_reducible refine (HH.out).mono ?_); rintro v w1 ⟨rfl, hH1, hb1'⟩; have hb1 := HG.out ▸ hb1'; have hB1 := hb0.trans (hb1.mono hb0.size); have hX1 := hX.belowN hb1; have hat1 := hat.belowN hb1; have hz1 := hH1.lt))
    clear HH hb1' hX
    go_loopw [24] (fun iv wr => ∃ k : Nat, iv = .int .i64 k ∧ k ≤ n ∧ Hid (rightL vars (ts.drop k) = Q) ∧ Hid (rightL vars (ts.take k) = true) ∧ HeapT wr g vars vars.toNat (ts.take k) ∧ Below g w1 wr) (fun iv _ => n - (intOf iv).toNat)
    case atStart => exact ⟨0, rfl, by omega, HQ.out, HP0.out, hH1, Below.refl _ _⟩
    case round =>
      obtain ⟨k, rfl, hk, hQk, hPk, hH, hbr⟩ := hrel
      have hbX := hb1.trans (hbr.mono (show (w.alloc (.cells #[.int .i64 0, .slice none 0 0] 24)).heap.size ≤ g by rw [HG.out]; exact Nat.le_refl _))
      have hzr := hH.lt
      have hXr := hX1.below hbr hgw
      have hBr := hB1.trans (hbr.mono (Nat.le_of_lt hgw) |>.mono (Nat.le_refl _))
      obtain ⟨x0, x1, x2, x3⟩ := hXr.c2
      by_cases hlt : k < n
      · obtain ⟨b1, off1, t, ea, en, ec, rfl, ht, t0, t1, hrow, hfar⟩ := hat.getF hbX (k := k) (by rw [← HN.out]; exact hlt)
        have hQ2 := hQk.out
        rw [rightL_step ht.out] at hQ2
        have hk0 : (0 : Int) ≤ (k : Int) := by omega
        have hk1 : (k : Int) < (n : Int) := by omega
        have hen : en = t.2.length := hrow.out.2.1
        have hen6 : en ≤ 1000000 := by rw [hen]; exact HLL.out t (List.mem_of_getElem? ht.out)
        have hbx := below_box wr (.cells #[.int .u64 (t.1.toNat : Int), .slice ea en ec] 57)
        obtain ⟨r0, r1, r2, r3⟩ := (Blk.new wr 57 #[.int .u64 (t.1.toNat : Int), .slice ea en ec]).c2
        obtain ⟨R, hR⟩ : ∃ R, rightT vars t.2 = R := ⟨_, rfl⟩
        have hea := hrow.out.2.2.2.2.belowN hbx
        have HR := hide (PRight_calls vars ea en ec t.2 hen _ hea hen6 R hR)
        rw [hR] at hQ2
        obtain ⟨z0, z1, z2, z3⟩ := (hXr.belowN hbx).c2
        cases R with
        | false =>
          have hQF : Q = false := by rw [← hQ2]; rfl
          subst hQF
          obtain ⟨q1, q2, q3⟩ := mk_wrong HNV.out HQ0.out
          have hV := HV.out; have hL := HL.out; have hE := HE.out
          rw [q1] at hE
          rw [q2] at hV
          rw [q3] at hL
          subst hE hV hL
          have hF6 := ((hXr.belowN hbx).set_ 0 (.int .i64 0)).set_ 1 (.slice none 0 0)
          clear hQ2 hR ht hen q1 q2 q3
          go_wp2_with (go_at_call 40; go_must ((with_reducible refine (HR.out).mono ?_); rintro v w5 ⟨rfl, rfl⟩))
          refine bodyPost_ret (results_rowP rfl _ _ (w.heap.size) _ #[.int .i64 0, .slice none 0 0] (0, 0) _ rfl hF6 Try.underlying24 rfl (by kernel_rfl)) rfl ?_
          have hb4 := hBr.trans (hbx.mono hBr.size)
          exact PolyOut.bad _ _ _ ((hb4.setCell (p := ⟨w.heap.size, 0, none⟩) (Nat.le_refl _) (.int .i64 0)).setCell (p := ⟨w.heap.size, 1, none⟩) (Nat.le_refl _) (.slice none 0 0))
        | true =>
          rw [Bool.true_and] at hQ2
          have HQ2 := hide hQ2
          have HTK := hide (show ts.take (k + 1) = ts.take k ++ [t] by rw [List.take_add_one, ht.out]; rfl)
          have HP2 : Hid (rightL vars (ts.take (k + 1)) = true) := by
            show _ = true
            rw [HTK.out]
            have := hPk.out
            unfold rightL at this ⊢
            rw [List.all_append, this]; simp [hR]
          have hlen := rightT_len hR
          have HPT := hide (Put_calls (wr.alloc (.cells #[.int .u64 (t.1.toNat : Int), .slice ea en ec] 57)) g vars vars.toNat (ts.take k) (hH.belowN hbx) (by rw [List.length_take]; omega) t ea en ec hen (by omega) (by omega) (rightT_in hR) hea)
          clear hQ2 hR ht hen hlen
          go_wp2_with (first
            | (go_at_call 40; go_must ((with_reducible refine (HR.out).mono ?_); rintro v w5 ⟨rfl, rfl⟩))
            | (go_at_call 51; go_must ((with_reducible refine (HPT.out).mono ?_); rintro v w6 ⟨rfl, hH6, hg6⟩)))
          go_roundw
          case rel => exact ⟨k + 1, by go_num, by omega, HQ2.out, HP2.out, by rw [HTK.out]; exact hH6, (hbr.alloc (by omega) _).grown hg6 (by rw [World.size_alloc]; omega) (fun j hj => by cases hj; omega)⟩
          case measure => simp [intOf]; omega
      · obtain rfl : k = n := by omega
        have hP2 := hPk.out
        rw [List.take_of_length_le (by rw [← HN.out]; exact Nat.le_refl _)] at hP2 hH
        obtain ⟨q1, q2, q3⟩ := mk_ok HNV.out hP2
        have HA := hide (All_calls wr g vars vars.toNat ts hH (by rw [← HN.out]; exact hl) (LenT.of_right (List.all_eq_true.1 hP2)) (rightL_in hP2) (by omega) V L E (by rw [← q2, HV.out]) (by rw [← q3, HL.out]) (by rw [← q1, HE.out]))
        clear hP2 q1 q2 q3
        go_wp2_with (go_at_call 53; go_must ((with_reducible refine (HA.out).mono ?_); rintro v w6 ⟨a6, n6, c6, rfl, hT6, hb6⟩; have hX6 := hXr.belowN hb6; obtain ⟨y0, y1, y2, y3⟩ := hX6.c2))
        have hF6 := (hX6.set_ 0 (.int .i64 V)).set_ 1 (.slice a6 n6 c6)
        refine bodyPost_ret (results_rowP rfl _ _ (w.heap.size) _ #[.int .i64 V, .slice a6 n6 c6] (0, 0) _ rfl hF6 Try.underlying24 rfl (by kernel_rfl)) rfl ?_
        exact PolyOut.stored (hBr.trans (hb6.mono hBr.size)) hT6 (Nat.le_refl _) hXr.lt hBr.size
end Go.Proofs.Ytcamcnahkdiefaa
