/- Polynomials in memory; which powers may be, which stand first. -/
import Derived.Test.YtcamcnahkdiefaaPo
import Derived.Test.YtcamcnahkdiefaaQb
namespace Go.Proofs.Ytcamcnahkdiefaa
set_option linter.unusedVariables false
set_option linter.unusedSimpArgs false
open Go.RowKit
theorem below_box (w : World) (o : Obj) : Below w.heap.size w (w.alloc o) := (Below.refl _ _).alloc (Nat.le_refl _) _
/-- a term in memory: its number, its powers' slice -/
structure TmH where
  c : UInt64
  a : Option Addr
  n : Nat
  k : Nat
instance : Flat TmH := ⟨2, fun x => [.int .u64 (x.c.toNat : Int), .slice x.a x.n x.k], fun _ => rfl, fun x u hu => by simp at hu; rcases hu with rfl | rfl <;> rfl, by decide⟩
instance : Inhabited TmH := ⟨⟨0, none, 0, 0⟩⟩
def TmH.of (w : World) (h : TmH) (t : Tm) : Prop := h.c = t.1 ∧ h.n = t.2.length ∧ h.n ≤ h.k ∧ h.k ≤ 9223372036854775807 ∧ At w h.a t.2
/-- terms in memory -/
def AtT (w : World) (a : Option Addr) (ts : List Tm) : Prop := ∃ hs : List TmH, At w a hs ∧ hs.length = ts.length ∧ ∀ (i : Nat) (h : TmH) (t : Tm), hs[i]? = some h → ts[i]? = some t → TmH.of w h t
theorem TmH.of.belowN {w w' : World} {h : TmH} {t : Tm} (k : TmH.of w h t) (hb : Below w.heap.size w w') : TmH.of w' h t := ⟨k.1, k.2.1, k.2.2.1, k.2.2.2.1, k.2.2.2.2.belowN hb⟩
theorem AtT.belowN {w w' : World} {a : Option Addr} {ts : List Tm} (h : AtT w a ts) (hb : Below w.heap.size w w') : AtT w' a ts := by
  obtain ⟨hs, h1, h2, h3⟩ := h
  exact ⟨hs, h1.belowN hb, h2, fun i y t e1 e2 => (h3 i y t e1 e2).belowN hb⟩
theorem AtT.nil (w : World) (a : Option Addr) : AtT w a [] := ⟨[], At.nil _ _, rfl, fun i h t e => by simp at e⟩
theorem AtT.get {w wr : World} {a : Option Addr} {ts : List Tm} (h : AtT w a ts) (hb : Below w.heap.size w wr) {k : Nat} (hk : k < ts.length) :
    ∃ (b off : Nat) (t : Tm) (ea : Option Addr) (en ec : Nat), a = some ⟨b, off, none⟩ ∧ Hid (ts[k]? = some t) ∧ wr.cell? ⟨b, off + k * 2, none⟩ = some (.int .u64 (t.1.toNat : Int)) ∧ wr.cell? ⟨b, off + k * 2 + 1, none⟩ = some (.slice ea en ec) ∧ Hid (en = t.2.length) ∧ en ≤ ec ∧ ec ≤ 9223372036854775807 ∧ At wr ea t.2 := by
  obtain ⟨hs, h1, h2, h3⟩ := h
  obtain ⟨b, off, y, e, hy, hc⟩ := (h1.belowN hb).get (k := k) (by omega)
  have ht : ts[k]? = some ts[k] := List.getElem?_eq_getElem hk
  obtain ⟨q1, q2, q3, q4, q5⟩ := (h3 k y _ hy.out ht).belowN hb
  have c0 := hc 0 _ rfl
  have c1 := hc 1 _ rfl
  refine ⟨b, off, ts[k], y.a, y.n, y.k, e, hide ht, ?_, ?_, hide q2, q3, q4, q5⟩
  · rw [← q1]; simpa [Flat.n] using c0
  · simpa [Flat.n] using c1
/-- may powers be? -/
def rightT (vars : Int) (e : List Int) : Bool := decide ((e.length : Int) = vars) && !e.any fun n => decide (n < 0) || decide (65535 < n)
theorem rightT_len {vars : Int} {e : List Int} (h : rightT vars e = true) : (e.length : Int) = vars := by
  unfold rightT at h
  simp only [Bool.and_eq_true, decide_eq_true_eq] at h
  exact h.1
theorem rightT_in {vars : Int} {e : List Int} (h : rightT vars e = true) : ∀ n ∈ e, 0 ≤ n ∧ n ≤ 65535 := by
  unfold rightT at h
  simp only [Bool.and_eq_true, decide_eq_true_eq, Bool.not_eq_true', List.any_eq_false, Bool.or_eq_true] at h
  intro n hn
  have := h.2 n hn
  omega
theorem rightT_mk {vars : Int} {e : List Int} (h1 : (e.length : Int) = vars) (h2 : ∀ n ∈ e, 0 ≤ n ∧ n ≤ 65535) : rightT vars e = true := by
  unfold rightT
  simp only [Bool.and_eq_true, decide_eq_true_eq, Bool.not_eq_true', List.any_eq_false, Bool.or_eq_true]
  exact ⟨h1, fun n hn => by have := h2 n hn; omega⟩
set_option maxHeartbeats 1600000 in
theorem RRight_calls (vars : Int) (a : Option Addr) (n c : Nat) (e : List Int) (hn : n = e.length) (w : World) (h : At w a e) (hl : n ≤ 1000000) (B : Bool) (hB : rightT vars e = B) :
    Calls Try.prog 41 #[.int .i64 vars, .slice a n c] w fun v w' => v = .returned (.bool B) ∧ w = w' := by
  unfold rightT at hB
  rw [← hn] at hB
  by_cases hv : (n : Int) = vars
  · rw [decide_eq_true hv, Bool.true_and] at hB
    obtain ⟨A, hA⟩ : ∃ A, (e.any fun n => decide (n < 0) || decide (65535 < n)) = A := ⟨_, rfl⟩
    rw [hA] at hB
    have HA := hide hA
    have HN := hide hn
    have HB := hide hB
    subst hv
    have e1 : ((n : Int) != (n : Int)) = false := by simp
    clear hA hn hB
    go_enter Try.func41, Try.ntmps41
    go_wp2
    go_loopw [5] (fun i wr => ∃ k : Nat, i = .int .i64 k ∧ k ≤ n ∧ Hid (((e.drop k).any fun n => decide (n < 0) || decide (65535 < n)) = A) ∧ wr = w) (fun i _ => n - (intOf i).toNat)
    case atStart => exact ⟨0, rfl, by omega, HA.out, rfl⟩
    case round =>
      obtain ⟨k, rfl, hk, hAk, rfl⟩ := hrel
      by_cases hlt : k < n
      · obtain ⟨b1, off1, x, rfl, hx, x0⟩ := h.getI (Below.refl _ _) (k := k) (by rw [← HN.out]; exact hlt)
        have hA2 := hAk.out
        rw [drop_at hx.out, List.any_cons] at hA2
        have hk0 : (0 : Int) ≤ (k : Int) := by omega
        have hk1 : (k : Int) < (n : Int) := by omega
        clear hx
        by_cases hx1 : x < 0
        · have HR : Hid (A = true) := by show A = true; rw [← hA2, decide_eq_true hx1]; rfl
          have HRB : Hid (B = false) := by show B = false; rw [← HB.out, HR.out]; rfl
          clear hA2
          go_wp2
          go_ret
          exact ⟨by rw [HRB.out]; rfl, rfl⟩
        · by_cases hx2 : 65535 < x
          · have HR : Hid (A = true) := by show A = true; rw [← hA2, decide_eq_true hx2, Bool.or_true]; rfl
            have HRB : Hid (B = false) := by show B = false; rw [← HB.out, HR.out]; rfl
            clear hA2
            go_wp2
            go_ret
            exact ⟨by rw [HRB.out]; rfl, rfl⟩
          · rw [decide_eq_false hx1, decide_eq_false hx2] at hA2
            have HA2 := hide hA2
            clear hA2
            go_wp2
            go_roundw
            case rel => exact ⟨k + 1, by go_num, by omega, HA2.out, by first | rfl | trivial⟩
            case measure => simp [intOf]; omega
      · obtain rfl : k = n := by omega
        have hA2 := hAk.out
        rw [List.drop_eq_nil_of_le (by rw [← HN.out]; exact Nat.le_refl _)] at hA2
        have HRB : Hid (B = true) := by show B = true; rw [← HB.out, ← hA2]; rfl
        clear hA2
        go_wp2
        go_ret
        exact ⟨by rw [HRB.out]; rfl, rfl⟩
  · rw [decide_eq_false hv, Bool.false_and] at hB
    subst hB
    have e1 : ((n : Int) != vars) = true := by simpa using hv
    have e2 : ((n : Int) == vars) = false := by simpa using hv
    clear hv
    go_enter Try.func41, Try.ntmps41
    go_wp2
    go_ret
    exact ⟨rfl, rfl⟩
set_option maxHeartbeats 1600000 in
theorem Order_calls (a b : Option Addr) (n m ca cb : Nat) (e f : List Int) (hn : n = e.length) (hm : m = f.length) (hnm : n = m) (w : World) (h : At w a e) (h' : At w b f) (hl : n ≤ 1000000) (R : Int) (hR : ordR e f = R) :
    Calls Try.prog 39 #[.slice a n ca, .slice b m cb] w fun v w' => v = .returned (.int .i64 R) ∧ ∃ q, w' = w.drewN q := by
  have HN := hide hn
  have HM := hide hm
  have HR := hide hR
  subst hnm
  clear hn hm hR
  go_enter Try.func39, Try.ntmps39
  go_wp2
  go_loopw [5] (fun i wr => ∃ k : Nat, i = .int .i64 k ∧ k ≤ n ∧ Hid (ordR (e.drop k) (f.drop k) = R) ∧ ∃ q, wr = w.drewN q) (fun i _ => n - (intOf i).toNat)
  case atStart => exact ⟨0, rfl, by omega, HR.out, 0, rfl⟩
  case round =>
    obtain ⟨k, rfl, hk, hRk, q, rfl⟩ := hrel
    have hbq := below_drawn w w.heap.size q
    by_cases hlt : k < n
    · obtain ⟨b1, off1, x, rfl, hx, x0⟩ := h.getI (Below.refl _ _) (k := k) (by rw [← HN.out]; exact hlt)
      obtain ⟨b2, off2, y, rfl, hy, y0⟩ := h'.getI (Below.refl _ _) (k := k) (by rw [← HM.out]; exact hlt)
      have hR2 := hRk.out
      rw [drop_at hx.out, drop_at hy.out, ordR] at hR2
      have hk0 : (0 : Int) ≤ (k : Int) := by omega
      have hk1 : (k : Int) < (n : Int) := by omega
      clear hx hy
      by_cases hxy : y < x
      · rw [if_pos hxy] at hR2
        subst hR2
        go_wp2
        go_quiet (fail)
        go_wp2
        go_ret
        exact ⟨rfl, by first | exact ⟨_, rfl⟩ | exact ⟨_, World.drewN_drewN _ _ _⟩ | exact ⟨_, by simp only [World.drewN_drewN]; rfl⟩⟩
      · rw [if_neg hxy] at hR2
        by_cases hyx : x < y
        · rw [if_pos hyx] at hR2
          subst hR2
          go_wp2
          go_quiet (fail)
          go_wp2
          go_quiet (fail)
          go_wp2
          go_ret
          exact ⟨rfl, by first | exact ⟨_, rfl⟩ | exact ⟨_, World.drewN_drewN _ _ _⟩ | exact ⟨_, by simp only [World.drewN_drewN]; rfl⟩⟩
        · rw [if_neg hyx] at hR2
          have HR2 := hide hR2
          clear hR2
          go_wp2
          go_quiet (fail)
          go_wp2
          go_quiet (fail)
          go_wp2
          go_roundw
          case rel => exact ⟨k + 1, by go_num, by omega, HR2.out, _, rfl⟩
          case measure => simp [intOf]; omega
    · obtain rfl : k = n := by omega
      have hR2 := hRk.out
      rw [List.drop_eq_nil_of_le (by rw [← HN.out]; exact Nat.le_refl _)] at hR2
      have hR3 : R = 0 := by rw [← hR2, ordR]; intros; simp_all
      subst hR3
      clear hR2
      go_wp2
      go_ret
      exact ⟨rfl, by first | exact ⟨_, rfl⟩ | exact ⟨_, World.drewN_drewN _ _ _⟩ | exact ⟨_, by simp only [World.drewN_drewN]; rfl⟩⟩
end Go.Proofs.Ytcamcnahkdiefaa
