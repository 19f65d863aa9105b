/- ref03.sorted. -/
import Derived.Test.YtcamcnahkdiefaaPh
namespace Go.Proofs.Ytcamcnahkdiefaa
set_option linter.unusedVariables false
set_option linter.unusedSimpArgs false
open Go.RowKit
/-- terms that were handed out -/
structure TOut (P : Nat → Prop) (w : World) (a : Option Addr) (n c : Nat) (M : List Tm) : Prop where
  len : n = M.length
  cap : n ≤ c
  max : c ≤ 9223372036854775807
  at_ : AtTP P w a M
theorem TOut.belowN {P : Nat → Prop} {w w' : World} {a : Option Addr} {n c : Nat} {M : List Tm} (h : TOut P w a n c M) (hb : Below w.heap.size w w') : TOut P w' a n c M := ⟨h.len, h.cap, h.max, h.at_.belowN hb⟩
theorem TOut.imp {P Q : Nat → Prop} {w : World} {a : Option Addr} {n c : Nat} {M : List Tm} (h : TOut P w a n c M) (hi : ∀ q, P q → Q q) : TOut Q w a n c M := ⟨h.len, h.cap, h.max, h.at_.imp hi⟩
theorem TOut.setCell {P : Nat → Prop} {w : World} {a : Option Addr} {n c : Nat} {M : List Tm} (h : TOut P w a n c M) {g i : Nat} (u : Value) (hg : ¬ P g) : TOut P (w.setCell ⟨g, i, none⟩ u) a n c M := ⟨h.len, h.cap, h.max, h.at_.setCell u hg⟩
theorem TOut.nil (P : Nat → Prop) (w : World) : TOut P w none 0 0 [] := ⟨rfl, by decide, by decide, AtTP.nil _ _ _⟩
theorem OwnT.out_ {P : Nat → Prop} {w : World} {B : Nat} {a : Option Addr} {c : Nat} {hs : List TmH} {ts : List Tm} (h : OwnT P w B a c hs ts) {n : Nat} (hn : n = ts.length) : TOut (fun q => P q ∨ B ≤ q) w a n c ts := ⟨hn, by rw [hn]; exact h.cap.1, h.cap.2, h.at_⟩
theorem sort_len (l : List Tm) : (sortT l).length ≤ l.length := by
  fun_induction sortT l with
  | case1 l hl ih1 ih2 =>
    have := merge_len (sortT (l.take (l.length / 2))) (sortT (l.drop (l.length / 2)))
    rw [List.length_take] at ih1
    rw [List.length_drop] at ih2
    omega
  | case2 l hl => exact List.length_filter_le _ _
theorem sort_two {l : List Tm} (h : 1 < l.length) : sortT l = mergeT (sortT (l.take (l.length / 2))) (sortT (l.drop (l.length / 2))) := by rw [sortT, dif_pos h]
theorem sort_one {l : List Tm} (h : ¬ 1 < l.length) : sortT l = nzT l := by rw [sortT, dif_neg h]
theorem MergedT (P : Nat → Prop) (nv : Nat) (a b : Option Addr) (n m ca cb : Nat) (A B : List Tm) (w : World) (h : TOut P w a n ca A) (h' : TOut P w b m cb B) (hl : n ≤ 100000000) (hl' : m ≤ 100000000) (hA : LenT nv A) (hB : LenT nv B) (hnv : nv ≤ 1000000) (M : List Tm) (hM : mergeT A B = M) :
    Calls Try.prog 48 #[.slice a n ca, .slice b m cb] w fun v w' => ∃ a' n' c', v = .returned (.slice a' n' c') ∧ TOut (fun q => P q ∨ w.heap.size ≤ q) w' a' n' c' M ∧ Below w.heap.size w w' :=
  (Merged_calls P nv a b n m ca cb A B h.len h'.len w h.at_ h'.at_ hl hl' hA hB hnv M hM).mono fun v w' ⟨a', n', c', e, h1, h2, h3, h4, hb⟩ => ⟨a', n', c', e, ⟨h1, h2, h3, h4⟩, hb⟩
set_option maxRecDepth 100000 in
set_option maxHeartbeats 6400000 in
theorem RSorted_calls (nv : Nat) (hnv : nv ≤ 1000000) (n : Nat) : ∀ (P : Nat → Prop) (a : Option Addr) (c : Nat) (l : List Tm) (w : World), TOut P w a n c l → n ≤ 100000000 → LenT nv l → ∀ M, sortT l = M →
    Calls Try.prog 42 #[.slice a n c] w fun v w' => ∃ a' n' c', v = .returned (.slice a' n' c') ∧ TOut (fun q => w.heap.size ≤ q) w' a' n' c' M ∧ Below w.heap.size w w' := by
  induction n using Nat.strongRecOn with
  | _ n ih =>
    intro P a c l w h hl hlen M hM
    have hnl := h.len
    by_cases h1 : 1 < n
    · have hM2 := sort_two (l := l) (by omega)
      rw [hM] at hM2
      obtain ⟨q, hq⟩ : ∃ q, n / 2 = q := ⟨_, rfl⟩
      rw [← hnl, hq] at hM2
      have hT1 : TOut P w a q c (l.take q) := ⟨by rw [List.length_take]; omega, by have := h.cap; omega, h.max, h.at_.take q⟩
      have hT2 : TOut P w (cutA a q c 2) (n - q) (c - q) (l.drop q) := ⟨by rw [List.length_drop]; omega, by have := h.cap; omega, by have := h.max; omega, h.at_.cut (by rw [← hnl]; exact h.cap)⟩
      obtain ⟨A, hA⟩ : ∃ A, sortT (l.take q) = A := ⟨_, rfl⟩
      obtain ⟨B, hB⟩ : ∃ B, sortT (l.drop q) = B := ⟨_, rfl⟩
      rw [hA, hB] at hM2
      have HI1 := hide (fun (W : World) (k : Below w.heap.size w W) => ih q (by omega) P a c (l.take q) W (hT1.belowN k) (by omega) hlen.take A hA)
      have HI2 := hide (fun (W : World) (k : Below w.heap.size w W) => ih (n - q) (by omega) P (cutA a q c 2) (c - q) (l.drop q) W (hT2.belowN k) (by omega) hlen.drop B hB)
      have hlA : A.length ≤ 100000000 := by rw [← hA]; have := sort_len (l.take q); rw [List.length_take] at this; omega
      have hlB : B.length ≤ 100000000 := by rw [← hB]; have := sort_len (l.drop q); rw [List.length_drop] at this; omega
      have HMG := hide (fun (W : World) (a1 a2 : Option Addr) (n1 n2 c1 c2 : Nat) (k1 : TOut (fun q => w.heap.size ≤ q) W a1 n1 c1 A) (k2 : TOut (fun q => w.heap.size ≤ q) W a2 n2 c2 B) => MergedT _ nv a1 a2 n1 n2 c1 c2 A B W k1 k2 (by rw [k1.len]; exact hlA) (by rw [k2.len]; exact hlB) (by rw [← hA]; exact (sortT_canon _ hlen.take).len) (by rw [← hB]; exact (sortT_canon _ hlen.drop).len) hnv M hM2.symm)
      have i0 : (0 : Int) ≤ (q : Int) := by omega
      have i1 : (q : Int) ≤ (n : Int) := by omega
      have i2 : (n : Int) ≤ (c : Int) := by have := h.cap; omega
      have i3 : (q : Int) ≤ (c : Int) := by omega
      have i4 : (n : Int) / 2 = (q : Int) := by omega
      have i6 : (n : Int).tdiv 2 = (q : Int) := by rw [Int.tdiv_eq_ediv_of_nonneg (by omega)]; exact i4
      have i7 : IntKind.i64.wrap (q : Int) = (q : Int) := IntWalk.i64_in _ (by omega)
      have i5 : (1 : Int) < (n : Int) := by omega
      have hBw := Below.drew (Below.refl w.heap.size w)
      clear hM2 hA hB hlA hlB hT1 hT2 hq hnl hM ih
      go_enter Try.func42, Try.ntmps42
      go_wp2
      go_region_held3 (fun w' => w.heap.size ≤ w'.heap.size) (go_keep)
        (first
          | (go_at_call 42; (with_reducible refine (HI1.out _ hBw).mono ?_); rintro v wx ⟨a1, n1, c1, rfl, hR1', hb⟩; have hR1 := hR1'.imp (fun q hq => Nat.le_trans hBw.size hq); have hBw := hBw.trans (hb.mono hBw.size); (try have hR2 := hR2.belowN hb); have hzx := hBw.size)
          | (go_at_call 42; (with_reducible refine (HI2.out _ hBw).mono ?_); rintro v wx ⟨a2, n2, c2, rfl, hR2', hb⟩; have hR2 := hR2'.imp (fun q hq => Nat.le_trans hBw.size hq); have hBw := hBw.trans (hb.mono hBw.size); (try have hR1 := hR1.belowN hb); have hzx := hBw.size)
          | (go_at_call 48; go_must ((with_reducible refine (HMG.out _ a1 a2 n1 n2 c1 c2 hR1 hR2).mono ?_); rintro v wx ⟨a3, n3, c3, rfl, hR3, hb⟩; have HZ3 := hide hBw.size; have hBw := hBw.trans (hb.mono hBw.size); have hzx := hBw.size)))
      go_wp2
      go_ret
      exact ⟨a3, n3, c3, rfl, hR3.imp (fun q hq => hq.elim id (fun h => Nat.le_trans HZ3.out h)), hBw⟩
    · rw [sort_one (by omega)] at hM
      have i5 : ¬ (1 : Int) < (n : Int) := by omega
      have hO := Own.new w (Nat.le_refl _) 57 TmH
      have hb0 := below_box w (.cells #[] 57)
      have hON : OwnT (fun q => w.heap.size ≤ q) (w.alloc (.cells #[] 57)) w.heap.size (some ⟨w.heap.size, 0, none⟩) 0 [] [] := OwnT.nil hO
      by_cases hn1 : n = 1
      · subst hn1
        obtain ⟨b1, off1, t, ea, en, ec, rfl, ht, u0, u1, hrowU, hfar⟩ := h.at_.getF (Below.refl _ _) (k := 0) (by omega)
        rw [Nat.zero_mul, Nat.add_zero] at u0 u1
        have t0 := cell_later hb0 u0
        have t1 := cell_later hb0 u1
        have hrow := hide (hrowU.out.belowN hb0)
        have hl1 : l = [t] := by
          match l, hnl, ht.out with
          | [x], _, hx => simp at hx; rw [hx]
        rw [hl1, nz_one] at hM
        have hz := hb0.size
        clear hnl h1
        by_cases hc0 : t.1 = 0
        · rw [if_pos hc0] at hM
          have e1 : ((t.1.toNat : Int) != 0) = false := by rw [hc0]; rfl
          have e2 : ((t.1.toNat : Int) == 0) = true := by rw [hc0]; rfl
          subst hM
          clear hc0 hl1 ht
          go_enter Try.func42, Try.ntmps42
          go_wp2
          go_ret
          exact ⟨_, _, _, rfl, (hON.out_ rfl).imp (fun q hq => hq.elim id id), hb0⟩
        · rw [if_neg hc0] at hM
          have e1 : ((t.1.toNat : Int) != 0) = true := by
            simp only [bne_iff_ne, ne_eq]
            exact fun q => hc0 (UInt64.toNat_inj.1 (by simpa using q))
          have e2 : ((t.1.toNat : Int) == 0) = false := by
            simp only [beq_eq_false_iff_ne, ne_eq]
            exact fun q => hc0 (UInt64.toNat_inj.1 (by simpa using q))
          have hlt : t.2.length = nv := hlen t (by rw [hl1]; exact List.mem_singleton.2 rfl)
          have hen : en ≤ 1000000 := by have := hrow.out.2.1; have : en = t.2.length := this; omega
          have HC := hide (fun (W : World) (k : Below (w.alloc (.cells #[] 57)).heap.size (w.alloc (.cells #[] 57)) W) => Copied_calls ea en ec t.2 hrow.out.2.1 W (hrow.out.2.2.2.2.belowN k) hen)
          have HEN : Hid (en = t.2.length) := hide hrow.out.2.1
          have hBw := Below.drew (Below.refl (w.alloc (.cells #[] 57)).heap.size (w.alloc (.cells #[] 57)))
          subst hM
          clear hc0 hl1 ht hlt
          go_enter Try.func42, Try.ntmps42
          go_wp2
          go_region_held3 (fun w' => w'.cell? ⟨b1, off1, none⟩ = some (.int .u64 (t.1.toNat : Int)) ∧ w'.cell? ⟨b1, off1 + 1, none⟩ = some (.slice ea en ec)) (go_keep)
            (first
              | (go_at_call 34; go_must ((with_reducible refine (HC.out _ hBw).mono ?_); rintro v w5 ⟨a5, c5, rfl, hown5, hb5⟩; have hB5 := hBw.trans (hb5.mono hBw.size); have s0 := cell_later hB5 t0; have s1 := cell_later hB5 t1; have hO5 := hO.belowN hB5; have hz5 := hB5.size; have hBB5 := hb0.trans (hB5.mono hz)))
              | (refine step_pushAll tyT (hO5.alloc _) (l2 := [(⟨t.1, a5, en, c5⟩ : TmH)]) (At.ofBlk (Blk.new w5 _ #[.int .u64 (t.1.toNat : Int), .slice a5 en c5]) _ rfl) rfl rfl rfl rfl rfl rfl (by simp; simp at hz5; omega) (by decide) (by decide) ?_; intro a6 c6 w6 hown6 hg6 hcs6; have hb9 := hBB5.trans ((below_box w5 (.cells #[.int .u64 (t.1.toNat : Int), .slice a5 en c5] 57)).mono hBB5.size); have hB6 := below_push hb9 (hO5.alloc _) hg6 hb9.size; have s2 := cell_later hB6 u0; have s3 := cell_later hB6 u1))
          have hOT := ((hON.belowN hB5).belowN (below_box w5 (.cells #[.int .u64 (t.1.toNat : Int), .slice a5 en c5] 57))).push hown6 hg6 hcs6 (y := ⟨t.1, a5, en, c5⟩) (t := t) ⟨rfl, HEN.out, by rw [HEN.out]; exact hown5.cap.1, Nat.le_trans hown5.cap.2 (by decide), (hown5.alloc _).at_⟩ (fun hne => by
            have h9 := hBw.size
            simp at h9
            refine ⟨fun e => ?_, fun q e => ?_⟩
            · have h7 := (hown5.blk w.heap.size e).1
              have h8 := hBw.size
              rw [World.size_alloc] at h8
              omega
            · have h7 := (hown5.blk q e).1
              simp at h7
              omega)
          go_wp2
          go_ret
          exact ⟨a6, _, c6, rfl, (hOT.out_ rfl).imp (fun q hq => hq.elim id id), hB6⟩
      · obtain rfl : n = 0 := by omega
        have hl0 : l = [] := by
          match l, hnl with
          | [], _ => rfl
        subst hl0
        have hM0 : M = [] := by rw [← hM]; rfl
        subst hM0
        clear hM hnl
        go_enter Try.func42, Try.ntmps42
        go_wp2
        go_ret
        exact ⟨_, _, _, rfl, (hON.out_ rfl).imp (fun q hq => hq.elim id id), hb0⟩
end Go.Proofs.Ytcamcnahkdiefaa
