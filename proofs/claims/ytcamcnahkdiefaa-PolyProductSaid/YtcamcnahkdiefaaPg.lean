/- Terms that a call makes; ref03.copied, ref03.merged. -/
import Derived.Test.YtcamcnahkdiefaaPf
namespace Go.Proofs.Ytcamcnahkdiefaa
set_option linter.unusedVariables false
set_option linter.unusedSimpArgs false
open Go.RowKit
theorem tyT : Ty Try.prog 22 57 TmH := Ty.of (z := .agg #[.int .u64 0, .slice none 0 0]) (size := 2) (bytes := 32) Try.underlying22 (by kernel_rfl) rfl (by decide) rfl
theorem tyI3 : Ty Try.prog 55 3 Int := Ty.of (z := .int .i64 0) (size := 1) (bytes := 8) Try.underlying55 (by kernel_rfl) rfl (by decide) rfl
/-- terms in memory, all in blocks of a kind -/
def AtTP (P : Nat → Prop) (w : World) (a : Option Addr) (ts : List Tm) : Prop := ∃ hs : List TmH, At w a hs ∧ hs.length = ts.length ∧ (∀ (i : Nat) (h : TmH) (t : Tm), hs[i]? = some h → ts[i]? = some t → TmH.of w h t) ∧ (ts ≠ [] → ∀ q, a.map (·.block) = some q → P q) ∧
  ∀ (i : Nat) (h : TmH) (t : Tm), hs[i]? = some h → ts[i]? = some t → t.2 ≠ [] → ∀ q, h.a.map (·.block) = some q → P q
theorem AtTP.at_ {P : Nat → Prop} {w : World} {a : Option Addr} {ts : List Tm} (h : AtTP P w a ts) : AtT w a ts := by
  obtain ⟨hs, h1, h2, h3, _, _⟩ := h
  exact ⟨hs, h1, h2, h3⟩
theorem AtT.any {w : World} {a : Option Addr} {ts : List Tm} (h : AtT w a ts) : AtTP (fun _ => True) w a ts := by
  obtain ⟨hs, h1, h2, h3⟩ := h
  exact ⟨hs, h1, h2, h3, fun _ _ _ => trivial, fun _ _ _ _ _ _ _ _ => trivial⟩
theorem AtTP.imp {P Q : Nat → Prop} {w : World} {a : Option Addr} {ts : List Tm} (h : AtTP P w a ts) (hi : ∀ q, P q → Q q) : AtTP Q w a ts := by
  obtain ⟨hs, h1, h2, h3, h4, h5⟩ := h
  exact ⟨hs, h1, h2, h3, fun k q e => hi q (h4 k q e), fun i y t e1 e2 k q e => hi q (h5 i y t e1 e2 k q e)⟩
theorem AtTP.belowN {P : Nat → Prop} {w w' : World} {a : Option Addr} {ts : List Tm} (h : AtTP P w a ts) (hb : Below w.heap.size w w') : AtTP P w' a ts := by
  obtain ⟨hs, h1, h2, h3, h4, h5⟩ := h
  exact ⟨hs, h1.belowN hb, h2, fun i y t e1 e2 => (h3 i y t e1 e2).belowN hb, h4, h5⟩
theorem AtTP.nil (P : Nat → Prop) (w : World) (a : Option Addr) : AtTP P w a [] := ⟨[], At.nil _ _, rfl, fun i h t e => by simp at e, fun h => absurd rfl h, fun i h t e => by simp at e⟩
theorem AtTP.take {P : Nat → Prop} {w : World} {a : Option Addr} {ts : List Tm} (h : AtTP P w a ts) (k : Nat) : AtTP P w a (ts.take k) := by
  obtain ⟨hs, h1, h2, h3, h4, h5⟩ := h
  have hx : ∀ (i : Nat) (y : TmH) (t : Tm), (hs.take k)[i]? = some y → (ts.take k)[i]? = some t → hs[i]? = some y ∧ ts[i]? = some t := by
    intro i y t e1 e2
    rw [List.getElem?_take] at e1 e2
    split at e1
    · rename_i hi; rw [if_pos hi] at e2; exact ⟨e1, e2⟩
    · cases e1
  exact ⟨hs.take k, h1.take k, by simp [h2], fun i y t e1 e2 => h3 i y t (hx i y t e1 e2).1 (hx i y t e1 e2).2, fun hne => h4 (by rintro rfl; simp at hne), fun i y t e1 e2 => h5 i y t (hx i y t e1 e2).1 (hx i y t e1 e2).2⟩
theorem AtTP.cut {P : Nat → Prop} {w : World} {a : Option Addr} {ts : List Tm} (h : AtTP P w a ts) {k c : Nat} (hc : ts.length ≤ c) : AtTP P w (cutA a k c 2) (ts.drop k) := by
  obtain ⟨hs, h1, h2, h3, h4, h5⟩ := h
  refine ⟨hs.drop k, h1.cut (by rw [h2]; exact hc), by simp [h2], fun i y t e1 e2 => ?_, fun hne q e => ?_, fun i y t e1 e2 => ?_⟩
  · rw [List.getElem?_drop] at e1 e2; exact h3 _ y t e1 e2
  · rw [cutA_block] at e; exact h4 (by rintro rfl; simp at hne) q e
  · rw [List.getElem?_drop] at e1 e2; exact h5 _ y t e1 e2
/-- a cell that is none of theirs -/
theorem AtTP.setCell {P : Nat → Prop} {w : World} {a : Option Addr} {ts : List Tm} (h : AtTP P w a ts) {g i : Nat} (u : Value) (hg : ¬ P g) : AtTP P (w.setCell ⟨g, i, none⟩ u) a ts := by
  obtain ⟨hs, h1, h2, h3, h4, h5⟩ := h
  have hgr := grown_setCell w g i u
  refine ⟨hs, h1.grown hgr (fun hne => ?_), h2, fun j y t e1 e2 => ?_, h4, h5⟩
  · have htn : ts ≠ [] := by rintro rfl; exact hne (List.eq_nil_of_length_eq_zero h2)
    obtain ⟨b, off, e, _⟩ := h1.lt hne
    refine .inl fun e' => hg (h4 htn g ?_)
    rw [← e']
  · obtain ⟨k1, k2, k3, k4, k5⟩ := h3 j y t e1 e2
    refine ⟨k1, k2, k3, k4, k5.grown hgr (fun hne => ?_)⟩
    refine .inl fun e' => hg (h5 j y t e1 e2 hne g ?_)
    rw [← e']
/-- terms in a slice of the call's own -/
structure OwnT (P : Nat → Prop) (w : World) (B : Nat) (a : Option Addr) (c : Nat) (hs : List TmH) (ts : List Tm) : Prop where
  out : Own w B 57 a c hs
  len : hs.length = ts.length
  row : ∀ (i : Nat) (h : TmH) (t : Tm), hs[i]? = some h → ts[i]? = some t → TmH.of w h t
  far : ∀ (i : Nat) (h : TmH) (t : Tm), hs[i]? = some h → ts[i]? = some t → t.2 ≠ [] → h.a.map (·.block) ≠ a.map (·.block) ∧ ∀ q, h.a.map (·.block) = some q → P q
theorem OwnT.nil {P : Nat → Prop} {w : World} {B : Nat} {a : Option Addr} {c : Nat} (h : Own w B 57 a c ([] : List TmH)) : OwnT P w B a c [] [] := ⟨h, rfl, fun i h t hx => by simp at hx, fun i h t hx => by simp at hx⟩
theorem OwnT.belowN {P : Nat → Prop} {w w' : World} {B : Nat} {a : Option Addr} {c : Nat} {hs : List TmH} {ts : List Tm} (h : OwnT P w B a c hs ts) (hb : Below w.heap.size w w') : OwnT P w' B a c hs ts :=
  ⟨h.out.belowN hb, h.len, fun i y t h1 h2 => (h.row i y t h1 h2).belowN hb, h.far⟩
theorem OwnT.at_ {P : Nat → Prop} {w : World} {B : Nat} {a : Option Addr} {c : Nat} {hs : List TmH} {ts : List Tm} (h : OwnT P w B a c hs ts) : AtTP (fun q => P q ∨ B ≤ q) w a ts := ⟨hs, h.out.at_, h.len, h.row, fun _ q e => .inr (h.out.blk q e).1, fun i y t e1 e2 hne q e => .inl ((h.far i y t e1 e2 hne).2 q e)⟩
theorem OwnT.mono {P : Nat → Prop} {w : World} {B B' : Nat} {a : Option Addr} {c : Nat} {hs : List TmH} {ts : List Tm} (h : OwnT P w B a c hs ts) (hB : B' ≤ B) : OwnT P w B' a c hs ts := ⟨h.out.mono hB, h.len, h.row, h.far⟩
theorem OwnT.cap {P : Nat → Prop} {w : World} {B : Nat} {a : Option Addr} {c : Nat} {hs : List TmH} {ts : List Tm} (h : OwnT P w B a c hs ts) : ts.length ≤ c ∧ c ≤ 9223372036854775807 := by
  have := h.out.cap
  rw [h.len] at this
  exact ⟨this.1, Nat.le_trans this.2 (by decide)⟩
theorem TmH.of.grown {w w' : World} {h : TmH} {t : Tm} {row : Option Nat} (k : TmH.of w h t) (hg : w.grownBy w' row) (hr : t.2 ≠ [] → h.a.map (·.block) ≠ row) : TmH.of w' h t :=
  ⟨k.1, k.2.1, k.2.2.1, k.2.2.2.1, k.2.2.2.2.grown hg (fun hne => by
    obtain ⟨b, off, e, _⟩ := k.2.2.2.2.lt hne
    refine .inl fun e' => hr hne ?_
    rw [← e', e])⟩
theorem OwnT.push {P : Nat → Prop} {w w' : World} {B : Nat} {a a' : Option Addr} {c c' : Nat} {hs : List TmH} {ts : List Tm} {y : TmH} {t : Tm} (h : OwnT P w B a c hs ts) (own : Own w' B 57 a' c' (hs ++ [y])) (hg : w.grownBy w' (a.map (·.block)))
    (hm : a'.map (·.block) = a.map (·.block) ∨ ∃ g, a'.map (·.block) = some g ∧ w.heap.size ≤ g) (hrow : TmH.of w y t) (hfar : t.2 ≠ [] → y.a.map (·.block) ≠ a.map (·.block) ∧ ∀ q, y.a.map (·.block) = some q → P q) : OwnT P w' B a' c' (hs ++ [y]) (ts ++ [t]) := by
  have hlt : ∀ (z : TmH) (s : Tm), TmH.of w z s → s.2 ≠ [] → ∃ q, z.a.map (·.block) = some q ∧ q < w.heap.size := by
    intro z s hz hne
    obtain ⟨b, off, e, hb⟩ := hz.2.2.2.2.lt hne
    exact ⟨b, by rw [e]; rfl, hb⟩
  have h1 : ∀ (i : Nat) (z : TmH) (s : Tm), (hs ++ [y])[i]? = some z → (ts ++ [t])[i]? = some s → TmH.of w z s ∧ (s.2 ≠ [] → z.a.map (·.block) ≠ a.map (·.block) ∧ ∀ q, z.a.map (·.block) = some q → P q) := by
    intro i z s hz hs'
    by_cases hi : i < hs.length
    · rw [List.getElem?_append_left hi] at hz
      rw [List.getElem?_append_left (by rw [← h.len]; exact hi)] at hs'
      exact ⟨h.row i z s hz hs', h.far i z s hz hs'⟩
    · have hi' : i = hs.length := by
        have := (List.getElem?_eq_some_iff.1 hz).1
        simp at this
        omega
      subst hi'
      rw [List.getElem?_append_right (Nat.le_refl _), Nat.sub_self] at hz
      rw [h.len, List.getElem?_append_right (Nat.le_refl _), Nat.sub_self] at hs'
      simp at hz hs'
      subst hz hs'
      exact ⟨hrow, hfar⟩
  refine ⟨own, by simp [h.len], fun i z s hz hs' => ?_, fun i z s hz hs' hne => ?_⟩
  · obtain ⟨k1, k2⟩ := h1 i z s hz hs'
    exact k1.grown hg (fun hne => (k2 hne).1)
  · obtain ⟨k1, k2⟩ := h1 i z s hz hs'
    refine ⟨?_, (k2 hne).2⟩
    rcases hm with e | ⟨g, e, hg'⟩
    · rw [e]; exact (k2 hne).1
    · obtain ⟨q, e1, e2⟩ := hlt z s k1 hne
      rw [e, e1]
      intro e3; injection e3 with e3; omega
theorem AtTP.getF {P : Nat → Prop} {w wr : World} {a : Option Addr} {ts : List Tm} (h : AtTP P w a ts) (hb : Below w.heap.size w wr) {k : Nat} (hk : k < ts.length) :
    ∃ (b off : Nat) (t : Tm) (ea : Option Addr) (en ec : Nat), a = some ⟨b, off, none⟩ ∧ Hid (ts[k]? = some t) ∧ wr.cell? ⟨b, off + k * 2, none⟩ = some (.int .u64 (t.1.toNat : Int)) ∧ wr.cell? ⟨b, off + k * 2 + 1, none⟩ = some (.slice ea en ec) ∧ Hid (TmH.of wr ⟨t.1, ea, en, ec⟩ t) ∧ Hid (t.2 ≠ [] → ∃ q, ea.map (·.block) = some q ∧ q < w.heap.size ∧ P q) := by
  obtain ⟨hs, h1, h2, h3, _, h5⟩ := h
  obtain ⟨b, off, y, e, hy, hc⟩ := h1.get (k := k) (by omega)
  have ht : ts[k]? = some ts[k] := List.getElem?_eq_getElem hk
  have hq := h3 k y _ hy.out ht
  have c0 := hc 0 _ rfl
  have c1 := hc 1 _ rfl
  refine ⟨b, off, ts[k], y.a, y.n, y.k, e, hide ht, cell_later hb ?_, cell_later hb ?_, hide ?_, hide fun hne => ?_⟩
  · rw [← hq.1]; simpa [Flat.n] using c0
  · simpa [Flat.n] using c1
  · have := hq.belowN hb; exact ⟨rfl, this.2⟩
  · obtain ⟨b', off', e', hb'⟩ := hq.2.2.2.2.lt hne
    exact ⟨b', by rw [e']; rfl, hb', h5 k y _ hy.out ht hne b' (by rw [e']; rfl)⟩
theorem merge_nil (a : List Tm) : mergeT a [] = nzT a := by cases a <;> simp [mergeT]
theorem merge_nil' (b : List Tm) : mergeT [] b = nzT b := by simp [mergeT]
theorem merge_l {x : Tm} {a b : List Tm} (h : b = [] ∨ ∃ y b', b = y :: b' ∧ ordR x.2 y.2 < 0) : mergeT (x :: a) b = nzT [x] ++ mergeT a b := by
  rcases h with rfl | ⟨y, b', rfl, h⟩
  · rw [merge_nil, merge_nil, nzT_cons]
  · rw [mergeT, if_pos h]
theorem merge_r {y : Tm} {a b : List Tm} (h : a = [] ∨ ∃ x a', a = x :: a' ∧ 0 < ordR x.2 y.2) : mergeT a (y :: b) = nzT [y] ++ mergeT a b := by
  rcases h with rfl | ⟨x, a', rfl, h⟩
  · rw [merge_nil', merge_nil', nzT_cons]
  · rw [mergeT, if_neg (by omega), if_pos h]
theorem merge_b {x y : Tm} {a b : List Tm} (h : ordR x.2 y.2 = 0) : mergeT (x :: a) (y :: b) = nzT [(x.1 + y.1, x.2)] ++ mergeT a b := by
  rw [mergeT, if_neg (by omega), if_neg (by omega)]
theorem merge_len (a b : List Tm) : (mergeT a b).length ≤ a.length + b.length := by
  have hz : ∀ l : List Tm, (nzT l).length ≤ l.length := fun l => List.length_filter_le _ _
  fun_induction mergeT a b with
  | case1 b => have := hz b; simp; omega
  | case2 x a => have := hz (x :: a); simp only [List.length_cons, List.length_nil] at *; omega
  | case3 x a y b h ih => have := hz [x]; simp only [List.length_append, List.length_cons, List.length_nil] at *; omega
  | case4 x a y b h1 h2 ih => have := hz [y]; simp only [List.length_append, List.length_cons, List.length_nil] at *; omega
  | case5 x a y b h1 h2 ih => have := hz [(x.1 + y.1, x.2)]; simp only [List.length_append, List.length_cons, List.length_nil] at *; omega
set_option maxHeartbeats 1600000 in
theorem Copied_calls (a : Option Addr) (n c : Nat) (e : List Int) (hn : n = e.length) (w : World) (h : At w a e) (hl : n ≤ 1000000) :
    Calls Try.prog 34 #[.slice a n c] w fun v w' => ∃ a' c', v = .returned (.slice a' n c') ∧ Own w' w.heap.size 3 a' c' e ∧ Below w.heap.size w w' := by
  have HN := hide hn
  have hO := Own.new w (Nat.le_refl _) 3 Int
  have hb0 := below_box w (.cells #[] 3)
  clear hn
  go_enter Try.func34, Try.ntmps34
  go_wp2
  go_loopw [3, 4] (fun ov iv wr => ∃ (k : Nat) (ao : Option Addr) (co : Nat), iv = .int .i64 k ∧ k ≤ n ∧ ov = .slice ao k co ∧ Own wr w.heap.size 3 ao co (e.take k) ∧ Below w.heap.size w wr) (fun _ iv _ => n - (intOf iv).toNat)
  case atStart => exact ⟨0, _, _, rfl, by omega, rfl, hO, hb0⟩
  case round =>
    obtain ⟨k, ao, co, rfl, hk, rfl, hown, hb⟩ := hrel
    have hzr := hb.size
    by_cases hlt : k < n
    · obtain ⟨b1, off1, x, rfl, hx, x0⟩ := h.getI hb (k := k) (by rw [← HN.out]; exact hlt)
      have hk0 : (0 : Int) ≤ (k : Int) := by omega
      have hk1 : (k : Int) < (n : Int) := by omega
      have HS := hide (show e.take (k + 1) = e.take k ++ [x] by rw [List.take_add_one, hx.out]; rfl)
      have HL := hide (show k = (e.take k).length by rw [List.length_take, ← HN.out]; omega)
      clear hx
      go_wp2_with (at_builtin; go_must (refine wpList_push tyI3 hown x rfl rfl rfl rfl rfl rfl HL.out hzr (by omega) ?_; intro a3 c3 w3 hown3 hg3 _))
      go_roundw
      case rel => exact ⟨k + 1, a3, c3, by go_num, by omega, rfl, by rw [HS.out]; exact hown3, below_push hb hown hg3 hzr⟩
      case measure => simp [intOf]; omega
    · obtain rfl : k = n := by omega
      have hE : e.take k = e := by rw [HN.out]; exact List.take_length
      rw [hE] at hown
      clear hE
      go_wp2
      go_ret
      exact ⟨ao, co, rfl, hown, hb⟩
end Go.Proofs.Ytcamcnahkdiefaa
