/- Several texts of mine in one file. -/
import Derived.Test.YtcamcnahkdiefaaGreatYSRai
import Derived.Test.YtcamcnahkdiefaaGreatYSRad
import Derived.Test.YtcamcnahkdiefaaGreatYSRag
/- symbol.run: operations, one after the other, on polynomials; each is reckoned once. -/
namespace Go.Proofs.YtcamcnahkdiefaaGreat
set_option linter.unusedVariables false
set_option linter.unusedSimpArgs false
open Go.RowKit Go.Maps
theorem tySt : Ty Tryz.prog 160 162 StH := Ty.of (z := .agg #[.int .i64 0, .slice none 0 0, .int .i64 0]) (size := 3) (bytes := 40) Tryz.underlying160 (by kernel_rfl) rfl (by decide) rfl
theorem Own.setSt {w : World} {B : Nat} {E : TypeId} {g c : Nat} {l : List StH} (h : Own w B E (some ⟨g, 0, .none⟩) c l) {i : Nat} {x : StH} (hx : l[i]? = some x) (y : StH) :
    Own (((w.setCell ⟨g, i * 3, .none⟩ (.int .i64 y.v)).setCell ⟨g, i * 3 + 1, .none⟩ (.slice y.a y.n y.c)).setCell ⟨g, i * 3 + 2, .none⟩ (.int .i64 y.k)) B E (some ⟨g, 0, .none⟩) c (l.set i y) := by
  have hi := (List.getElem?_eq_some_iff.1 hx).1
  have h1 := h.setAt i 0 ⟨y.v, x.a, x.n, x.c, x.k⟩ x (.int .i64 y.v) hx (by decide) rfl
  have h2 := h1.setAt i 1 ⟨y.v, y.a, y.n, y.c, x.k⟩ ⟨y.v, x.a, x.n, x.c, x.k⟩ (.slice y.a y.n y.c) (by rw [List.getElem?_set, if_pos rfl, if_pos hi]) (by decide) rfl
  rw [List.set_set] at h2
  have h3 := h2.setAt i 2 y ⟨y.v, y.a, y.n, y.c, x.k⟩ (.int .i64 y.k) (by rw [List.getElem?_set, if_pos rfl, if_pos hi]) (by decide) rfl
  rw [List.set_set] at h3
  exact h3
/-- states in memory -/
def StsOk (P : Nat → Prop) (w : World) (va : Int) (PL : List (List Tm)) (S : List StH) (R : List (List Tm)) : Prop := S.length = R.length ∧ ∀ (i : Nat) (y : StH) (L : List Tm), S[i]? = some y → R[i]? = some L → StOk P w va PL y L
theorem StsOk.belowN {P : Nat → Prop} {w w' : World} {va : Int} {PL : List (List Tm)} {S : List StH} {R : List (List Tm)} (h : StsOk P w va PL S R) (hb : Below w.heap.size w w') : StsOk P w' va PL S R := ⟨h.1, fun i y L e1 e2 => (h.2 i y L e1 e2).belowN hb⟩
theorem StsOk.grown {P : Nat → Prop} {w w' : World} {va : Int} {PL : List (List Tm)} {S : List StH} {R : List (List Tm)} {row : Option Nat} (h : StsOk P w va PL S R) (hg : w.grownBy w' row) (hr : ∀ g, row = some g → ¬ P g) : StsOk P w' va PL S R := ⟨h.1, fun i y L e1 e2 => (h.2 i y L e1 e2).grown hg hr⟩
theorem StsOk.turned {P : Nat → Prop} {F : List Nat} {w w' : World} {va : Int} {PL : List (List Tm)} {S : List StH} {R : List (List Tm)} (h : StsOk P w va PL S R) (hT : Turned F w w') (hF : ∀ g ∈ F, ¬ P g) : StsOk P w' va PL S R := ⟨h.1, fun i y L e1 e2 => (h.2 i y L e1 e2).turned hT hF⟩
theorem StsOk.more {P : Nat → Prop} {w : World} {va : Int} {PL : List (List Tm)} {S : List StH} {R : List (List Tm)} (h : StsOk P w va PL S R) (e : List (List Tm)) : StsOk P w va (PL ++ e) S R := ⟨h.1, fun i y L e1 e2 => (h.2 i y L e1 e2).more e⟩
theorem StsOk.imp {P Q : Nat → Prop} {w : World} {va : Int} {PL : List (List Tm)} {S : List StH} {R : List (List Tm)} (h : StsOk P w va PL S R) (hi : ∀ q, P q → Q q) : StsOk Q w va PL S R := ⟨h.1, fun i y L e1 e2 => ⟨(h.2 i y L e1 e2).v, (h.2 i y L e1 e2).t.imp hi, (h.2 i y L e1 e2).k1, (h.2 i y L e1 e2).k2⟩⟩
theorem StsOk.nil (P : Nat → Prop) (w : World) (va : Int) (PL : List (List Tm)) : StsOk P w va PL [] [] := ⟨rfl, fun i y L e => by simp at e⟩
theorem StsOk.push {P : Nat → Prop} {w : World} {va : Int} {PL : List (List Tm)} {S : List StH} {R : List (List Tm)} (h : StsOk P w va PL S R) {y : StH} {L : List Tm} (hy : StOk P w va PL y L) : StsOk P w va PL (S ++ [y]) (R ++ [L]) := by
  refine ⟨by simp [h.1], fun i z M e1 e2 => ?_⟩
  by_cases hi : i < S.length
  · rw [List.getElem?_append_left hi] at e1
    rw [List.getElem?_append_left (by rw [← h.1]; exact hi)] at e2
    exact h.2 i z M e1 e2
  · have h0 : i = S.length := by
      have := List.getElem?_eq_some_iff.1 e1
      obtain ⟨h1, _⟩ := this
      simp at h1; omega
    subst h0
    rw [List.getElem?_append_right (Nat.le_refl _)] at e1
    rw [h.1, List.getElem?_append_right (Nat.le_refl _)] at e2
    simp at e1 e2
    subst e1 e2
    exact hy
theorem StsOk.set {P : Nat → Prop} {w : World} {va : Int} {PL : List (List Tm)} {S : List StH} {R : List (List Tm)} (h : StsOk P w va PL S R) {y : StH} {L : List Tm} (k : Nat) (hy : StOk P w va PL y L) : StsOk P w va PL (S.set k y) (R.set k L) := by
  refine ⟨by simp [h.1], fun i z M e1 e2 => ?_⟩
  by_cases hi : k = i
  · subst hi
    rw [List.getElem?_set] at e1 e2
    simp at e1 e2
    obtain ⟨_, rfl⟩ := e1
    obtain ⟨_, rfl⟩ := e2
    exact hy
  · rw [List.getElem?_set_ne hi] at e1 e2
    exact h.2 i z M e1 e2
theorem StsOk.get {P : Nat → Prop} {w : World} {va : Int} {PL : List (List Tm)} {S : List StH} {R : List (List Tm)} (h : StsOk P w va PL S R) {k : Nat} {y : StH} (hy : S[k]? = some y) : StOk P w va PL y (R.getD k []) := by
  have hk : k < R.length := by rw [← h.1]; exact (List.getElem?_eq_some_iff.1 hy).1
  refine h.2 k y _ hy ?_
  rw [List.getD_eq_getElem?_getD, List.getElem?_eq_getElem hk]
  rfl
theorem ne_push {a a' : Option Addr} {g n : Nat} (h : a'.map (·.block) = a.map (·.block) ∨ ∃ q, a'.map (·.block) = some q ∧ n ≤ q) (hne : a.map (·.block) ≠ some g) (hg : g < n) : a'.map (·.block) ≠ some g := by
  rcases h with e | ⟨q, e, hq⟩
  · rw [e]; exact hne
  · rw [e]; intro h; injection h with h; omega
/-- what is neither the registers nor the book -/
def offR (gd gb gm q : Nat) : Prop := q ≠ gd ∧ q ≠ gb ∧ q ≠ gm
theorem tcell {F : List Nat} {w w' : World} (hT : Turned F w w') (b off : Nat) (hb : b < w.heap.size) (hn : b ∉ F) : w'.cell? ⟨b, off, none⟩ = w.cell? ⟨b, off, none⟩ ∧ w'.frozen? ⟨b, off, none⟩ = w.frozen? ⟨b, off, none⟩ := by
  have h := hT.block b hb hn
  exact ⟨by simp only [World.cell?, h], by simp only [World.frozen?, h]⟩
theorem own_ne {α : Type} [Flat α] {w : World} {B : Nat} {E : TypeId} {a : Option Addr} {c : Nat} {l : List α} (h : Own w B E a c l) {g : Nat} (hg : g < B) : a.map (·.block) ≠ some g := fun e => by have := (h.blk g e).1; omega
theorem Blk.turned {F : List Nat} {w w' : World} {g : Nat} {T : TypeId} {cs : Array Value} (h : Blk w g T cs) (hT : Turned F w w') (hn : g ∉ F) : Blk w' g T cs := (hT.block g h.lt hn).trans h
theorem mk_self {va : Int} {L : List Tm} (h : checkP va L = true) : mkE va L = 0 ∧ mkV va L = va ∧ mkL va L = L := by
  have k := checkP_ok h
  have e := sort_self k.can
  obtain ⟨e1, e2, e3⟩ := mk_of_ok k.range k.right (by rw [e]; exact k.len)
  exact ⟨e1, e2, by rw [e3, e]⟩
set_option maxRecDepth 100000 in
set_option maxHeartbeats 6400000 in
theorem RunSym_calls (va : Int) (a : Option Addr) (ln c : Nat) (l : List OpD) (hln : ln = l.length) (sa : Option Addr) (sn sc : Nat) (hs : List PoH) (r : List (List Tm)) (hsn : sn = hs.length) (h0 : 0 < sn) (w : World) (h : At w a l) (hst : At w sa hs) (hP : PsAt (fun q => q < w.heap.size) w va hs r) (hAll : AllP va r)
    (hin : ∀ x ∈ l, (1 ≤ x.kind ∧ x.kind ≤ 6) ∧ InR (sn : Int) x) (hl : ln ≤ 1000000) (hsl : sn ≤ 1000000) (EE : Int) (RR : List (List Tm)) (hR : runS va l r = (EE, RR)) :
    Calls Tryz.prog 42 #[.slice a ln c, .slice sa sn sc] w (PolysOut va RR EE w) := by
  have HLN := hide hln
  have HSN := hide hsn
  have HSR := hide (show r.length = sn by rw [← hP.1, hsn])
  clear hln hsn
  have hmm := @run_makeMap Tryz.prog
  have hb0 := (below_box w (.map #[] 0)).alloc (by simp) (.cells #[.int .i64 0, .map (some w.heap.size), .int .i64 0] 159)
  have hm0 := (World.ownsMap_made w Tryz.prog 206 heldR).alloc (.cells #[.int .i64 0, .map (some w.heap.size), .int .i64 0] 159)
  have hk0 := Blk.new (w.alloc (.map #[] 0)) 159 #[.int .i64 0, .map (some w.heap.size), .int .i64 0]
  simp only [World.size_alloc] at hk0
  go_enter Tryz.func42, Tryz.ntmps42
  go_wp2
  refine wp_scope_straight ?_
  go_wp2
  go_loopw [7, 23] (fun rv iv wr => ∃ (k : Nat) (a' : Option Addr) (c' : Nat) (T : List StH) (vk : Int), rv = .slice a' k c' ∧ iv = .int .i64 k ∧ k ≤ sn ∧ Own wr (w.heap.size + 1 + 1) 162 a' c' T ∧ StsOk (fun q => q < w.heap.size) wr va (r.take k) T (r.take k) ∧
    Blk wr (w.heap.size + 1) 159 #[.int .i64 vk, .map (some w.heap.size), .int .i64 (k : Int)] ∧ (0 < k → vk = va) ∧ wr.ownsMap Tryz.prog 206 heldR w.heap.size 0 (.map []) ∧ Below w.heap.size w wr ∧ w.heap.size + 1 + 1 ≤ wr.heap.size) (fun _ iv _ => sn - (intOf iv).toNat)
  case atStart => exact ⟨0, _, _, [], 0, rfl, rfl, by omega, Own.none _ _ _, StsOk.nil _ _ _ _, hk0, by omega, hm0, hb0, by simp⟩
  case round =>
    obtain ⟨k, a', c', T, vk, rfl, rfl, hk, hown, hT, hbk, hvk, hmp, hb, hz⟩ := hrel
    by_cases hlt : k < sn
    · obtain ⟨b1, off1, x, rfl, hx, c0, c1⟩ := hst.getPo hb (show k < hs.length by have := HSN.out; omega)
      obtain ⟨hv1, hT1⟩ := hP.get hx.out
      rw [hv1] at c0
      obtain ⟨L, hL⟩ : ∃ L, r.getD k [] = L := ⟨_, rfl⟩
      rw [hL] at hT1
      have hrk : r[k]? = some L := by rw [← hL, List.getD_eq_getElem?_getD, List.getElem?_eq_getElem (by have := HSR.out; omega)]; rfl
      have hkl : k = T.length := by rw [hT.1, List.length_take, HSR.out]; omega
      have htk : r.take (k + 1) = r.take k ++ [L] := by rw [List.take_add_one, hrk]; rfl
      have hgb := hbk.lt
      obtain ⟨wo, rfl⟩ : ∃ wo : World, wo = wr := ⟨_, rfl⟩
      obtain ⟨k0, k1, k2, k3, k4, k5⟩ := (hbk.alloc (.cells #[.int .i64 va, .slice x.a x.n x.c] 42)).c3
      have hn1 : w.heap.size + 1 ≠ wo.heap.size := by omega
      have hg1 := grown_setCell wo (w.heap.size + 1) 0 (.int .i64 va)
      have hsz : (wo.setCell ⟨w.heap.size + 1, 0, none⟩ (.int .i64 va)).heap.size = wo.heap.size := by simp [World.setCell]
      have hbk5 := (hbk.set_ 0 (.int .i64 va)).alloc (.cells #[.int .i64 va, .slice x.a x.n x.c] 42)
      have hN := Blk.new (wo.setCell ⟨w.heap.size + 1, 0, none⟩ (.int .i64 va)) 42 #[.int .i64 va, .slice x.a x.n x.c]
      rw [hsz] at hN
      obtain ⟨n0, n1, n2, n3⟩ := hN.c2
      have hne0 := own_ne hown (g := w.heap.size + 1) (by omega)
      have hbx := below_box (wo.setCell ⟨w.heap.size + 1, 0, none⟩ (.int .i64 va)) (.cells #[.int .i64 va, .slice x.a x.n x.c] 42)
      have hb2 := (hb.grown hg1 (by omega) (fun q hq => by injection hq with hq; omega)).alloc (by omega) (.cells #[.int .i64 va, .slice x.a x.n x.c] 42)
      have hown2 := (hown.grown hg1 (.inr hne0)).alloc (.cells #[.int .i64 va, .slice x.a x.n x.c] 42)
      have hT2 := (hT.grown hg1 (fun q hq => by injection hq with hq; omega)).belowN hbx
      have hmp2 := (hmp.kept hg1 (by simp)).alloc (.cells #[.int .i64 va, .slice x.a x.n x.c] 42)
      obtain ⟨m, HM⟩ : ∃ m, Hid (k + 1 = m) := ⟨_, rfl⟩
      have HOF := hide (Of_callsM (w.heap.size + 1) va (.map (some w.heap.size)) k m HM.out (by omega) x.a x.n x.c _ hbk5 va)
      have hTx := hT1.belowN hb2
      have hz2 : w.heap.size + 1 + 1 ≤ ((wo.setCell ⟨w.heap.size + 1, 0, none⟩ (.int .i64 va)).alloc (.cells #[.int .i64 va, .slice x.a x.n x.c] 42)).heap.size := by simp [World.setCell]; omega
      have HKL := hide hkl
      have HTK := hide htk
      have HT1 := hide hTx
      clear hkl htk hTx hT1 hL hrk hown hT hmp hbk hbk5 hx
      go_wp2_with (first
        | (at_builtin; go_must (refine wpList_push tySt hown7 ⟨va, x.a, x.n, x.c, (m : Int)⟩ rfl rfl rfl rfl rfl rfl HKL.out hz7 (by omega) ?_; intro a3 c3 w3 hown3 hg3 hcs3))
        | (go_at_call 85; go_must ((with_reducible refine (HOF.out).mono ?_); rintro vv w7 ⟨rfl, hbk7, hg7⟩; have hown7 := hown2.grown hg7 (.inr hne0); have hz7 := Nat.le_trans hz2 hg7.size; have hb7 := hb2.grown hg7 (by omega) (fun q hq => by injection hq with hq; omega); have hT7 := hT2.grown hg7 (fun q hq => by injection hq with hq; omega); have hTx7 := HT1.out.grown hg7 (fun q hq => by injection hq with hq; omega); have hmp7 := hmp2.kept hg7 (by simp))))
      have hne3 : a'.map (·.block) ≠ some (w.heap.size + 1) := hne0
      have hne4 := own_ne hown7 (g := w.heap.size) (by omega)
      have hrow : ∀ q, a'.map (·.block) = some q → ¬ q < w.heap.size := fun q hq => by have := (hown7.blk q hq).1; omega
      have hm := HM.out
      subst hm
      go_roundw
      case rel =>
        refine ⟨k + 1, a3, c3, T ++ [⟨va, x.a, x.n, x.c, ((k + 1 : Nat) : Int)⟩], va, by go_num, by go_num, by omega, hown3, ?_, hbk7.grown hg3 (fun e => hne3 e.symm), fun _ => rfl, hmp7.kept hg3 (fun e => hne4 e.symm), hb7.grown hg3 (by omega) (fun q hq => by have := (hown7.blk q hq).1; omega), Nat.le_trans hz7 hg3.size⟩
        rw [HTK.out]
        exact ((hT7.more [L]).grown hg3 hrow).push ⟨rfl, hTx7.grown hg3 hrow, by simp; omega, by simp; rw [List.getElem?_append_right (by have := hT7.1; have := HKL.out; omega)]; simp [← hT7.1, ← HKL.out]⟩
      case measure => simp [intOf] <;> omega
    · have hkn : k = sn := by omega
      subst hkn
      have hr : r.take k = r := by rw [← HSR.out, List.take_length]
      rw [hr] at hT
      obtain rfl := hvk h0
      obtain ⟨gd, e1, hgB, hgz⟩ := hown.some_ (by rintro rfl; have := hT.1; have := HSR.out; simp at *; omega)
      subst e1
      have hTl : T.length = k := by rw [hT.1, HSR.out]
      have hT0 := hT.imp (Q := offR gd (w.heap.size + 1) w.heap.size) (fun q hq => by unfold offR; omega)
      have hBk : BookM (offR gd (w.heap.size + 1) w.heap.size) wr (w.heap.size + 1) w.heap.size vk r (.map []) := ⟨by rw [HSR.out]; exact hbk, by rw [HSR.out]; exact hmp.mono (by omega), Known.empty _ _ _ _⟩
      have HIN := hide hin
      have HR := hide hR
      clear hin hR hlt hk hst hP hvk hT hbk hmp hr
      obtain ⟨wo, rfl⟩ : ∃ wo : World, wo = wr := ⟨_, rfl⟩
      go_wp2
      go_step3
      go_wp2
      go_loopw [10, 41] (fun ev iv wr => ∃ (j : Nat) (T' : List StH) (R PL : List (List Tm)) (D : DataW Value), ev = .int .i64 0 ∧ iv = .int .i64 j ∧ j ≤ ln ∧ Own wr (w.heap.size + 1 + 1) 162 (some ⟨gd, 0, none⟩) c' T' ∧ T'.length = k ∧ StsOk (offR gd (w.heap.size + 1) w.heap.size) wr vk PL T' R ∧ AllP vk R ∧ runS vk (l.drop j) R = (EE, RR) ∧
        BookM (offR gd (w.heap.size + 1) w.heap.size) wr (w.heap.size + 1) w.heap.size vk PL D ∧ PL.length ≤ k + j ∧ Below w.heap.size w wr ∧ gd < wr.heap.size) (fun _ iv _ => ln - (intOf iv).toNat)
      case atStart => exact ⟨0, T, r, r, .map [], rfl, rfl, by omega, hown, hTl, hT0, hAll, HR.out, hBk, by rw [HSR.out]; omega, hb, hgz⟩
      case round =>
        obtain ⟨j, T', R, PL, D, rfl, rfl, hj, hown', hTl', hTR, hAR, hRS, hBM, hPLl, hbV, hgzV⟩ := hrel
        have hzV := hbV.size
        by_cases hlt : j < ln
        · have hjl : j < l.length := by have := HLN.out; omega
          obtain ⟨b1', off1, x, rfl, hx, x0, x1, x2, x3, x4⟩ := (h.belowN hbV).getOp (Below.refl _ _) hjl
          obtain ⟨⟨k1, k2⟩, ⟨d1, d2⟩, ⟨p1, p2⟩, ⟨i1, i2⟩⟩ := HIN.out x (List.mem_of_getElem? hx.out)
          have hRlen : R.length = k := by rw [← hTR.1]; exact hTl'
          obtain ⟨pd, hpd⟩ : ∃ y, T'[x.d.toNat]? = some y := ⟨T'[x.d.toNat]'(by omega), List.getElem?_eq_getElem _⟩
          obtain ⟨pa, hpa⟩ : ∃ y, T'[x.a.toNat]? = some y := ⟨T'[x.a.toNat]'(by omega), List.getElem?_eq_getElem _⟩
          obtain ⟨pb, hpb⟩ : ∃ y, T'[x.b.toNat]? = some y := ⟨T'[x.b.toNat]'(by omega), List.getElem?_eq_getElem _⟩
          have hsA := hTR.get hpa
          have hsB := hTR.get hpb
          have hca := hAR.get (k := x.a.toNat) (by omega)
          have hcb := hAR.get (k := x.b.toNat) (by omega)
          rw [drop_at hx.out, runS] at hRS
          generalize R.getD x.a.toNat [] = A at *
          generalize R.getD x.b.toNat [] = B at *
          obtain ⟨e0, he0⟩ : ∃ e, symE vk x.kind x.v A B = e := ⟨_, rfl⟩
          obtain ⟨L0, hL0⟩ : ∃ e, symL vk x.kind x.v A B = e := ⟨_, rfl⟩
          have hfine := sym_fine (k := x.kind) (v := x.v) (B := B) hca
          rw [he0, hL0] at hfine
          rw [he0, hL0] at hRS
          obtain ⟨gx, hgx⟩ : ∃ gx, wr.heap.size = gx := ⟨_, rfl⟩
          have hdq : Below wr.heap.size wr (wr.alloc (.cells #[.int .i64 x.kind, .int .i64 x.d, .int .i64 x.a, .int .i64 x.b, .int .u64 (x.v.toNat : Int)] 89)).drew := Below.drew (below_box wr _)
          have hXb : Blk (wr.alloc (.cells #[.int .i64 x.kind, .int .i64 x.d, .int .i64 x.a, .int .i64 x.b, .int .u64 (x.v.toNat : Int)] 89)).drew wr.heap.size 89 #[.int .i64 x.kind, .int .i64 x.d, .int .i64 x.a, .int .i64 x.b, .int .u64 (x.v.toNat : Int)] := Blk.new wr _ _
          have hF : ∀ g ∈ [w.heap.size + 1, w.heap.size], ¬ offR gd (w.heap.size + 1) w.heap.size g := fun g hg h => by unfold offR at h; simp at hg; omega
          have hFd : gd ∉ [w.heap.size + 1, w.heap.size] := by simp; omega
          have hFx : gx ∉ [w.heap.size + 1, w.heap.size] := by simp; omega
          have HDO := hide (Do_calls (w.heap.size + 1) w.heap.size (by omega) x.kind x.d x.a x.b x.v ⟨k1, k2⟩ (offR gd (w.heap.size + 1) w.heap.size) vk PL (by omega) D pa pb A B _ (hBM.belowN hdq) (fun q hq => by have := hdq.size; have := hXb.lt; unfold offR; omega) (fun h => h.2.1 rfl) (fun h => h.2.2 rfl) (hsA.belowN hdq) (hsB.belowN hdq) hca hcb L0 e0 hL0 he0)
          have hownq := hown'.belowN hdq
          have ca0 := hownq.cellAt hpa (f := 0) rfl
          have ca1 := hownq.cellAt hpa (f := 1) rfl
          have ca2 := hownq.cellAt hpa (f := 2) rfl
          have cb0 := hownq.cellAt hpb (f := 0) rfl
          have cb1 := hownq.cellAt hpb (f := 1) rfl
          have cb2 := hownq.cellAt hpb (f := 2) rfl
          have cd0 := hownq.cellAt hpd (f := 0) rfl
          have cd1 := hownq.cellAt hpd (f := 1) rfl
          have cd2 := hownq.cellAt hpd (f := 2) rfl
          have fd0 := hownq.frozen (x.d.toNat * 3)
          have fd1 := hownq.frozen (x.d.toNat * 3 + 1)
          have fd2 := hownq.frozen (x.d.toNat * 3 + 2)
          simp only [Flat.n, Nat.add_zero] at ca0 ca1 ca2 cb0 cb1 cb2 cd0 cd1 cd2
          rw [hgx] at hXb
          obtain ⟨o0, o1, o2, o3, o4, o5, o6, o7, o8, o9⟩ := hXb.c5
          obtain ⟨S', hS'⟩ : ∃ S' : World → Prop, S' = fun w' => (w'.cell? ⟨gx, 0, none⟩ = some (.int .i64 x.kind) ∧ w'.cell? ⟨gx, 1, none⟩ = some (.int .i64 x.d) ∧ w'.cell? ⟨gx, 2, none⟩ = some (.int .i64 x.a) ∧ w'.cell? ⟨gx, 3, none⟩ = some (.int .i64 x.b) ∧ w'.cell? ⟨gx, 4, none⟩ = some (.int .u64 (x.v.toNat : Int))) ∧ (w'.cell? ⟨gd, x.a.toNat * 3, none⟩ = some (.int .i64 pa.v) ∧ w'.cell? ⟨gd, x.a.toNat * 3 + 1, none⟩ = some (.slice pa.a pa.n pa.c) ∧ w'.cell? ⟨gd, x.a.toNat * 3 + 2, none⟩ = some (.int .i64 pa.k)) ∧ (w'.cell? ⟨gd, x.b.toNat * 3, none⟩ = some (.int .i64 pb.v) ∧ w'.cell? ⟨gd, x.b.toNat * 3 + 1, none⟩ = some (.slice pb.a pb.n pb.c) ∧ w'.cell? ⟨gd, x.b.toNat * 3 + 2, none⟩ = some (.int .i64 pb.k)) := ⟨_, rfl⟩
          have HSE : Hid (∀ w', S' w' → (w'.cell? ⟨gx, 0, none⟩ = some (.int .i64 x.kind) ∧ w'.cell? ⟨gx, 1, none⟩ = some (.int .i64 x.d) ∧ w'.cell? ⟨gx, 2, none⟩ = some (.int .i64 x.a) ∧ w'.cell? ⟨gx, 3, none⟩ = some (.int .i64 x.b) ∧ w'.cell? ⟨gx, 4, none⟩ = some (.int .u64 (x.v.toNat : Int))) ∧ (w'.cell? ⟨gd, x.a.toNat * 3, none⟩ = some (.int .i64 pa.v) ∧ w'.cell? ⟨gd, x.a.toNat * 3 + 1, none⟩ = some (.slice pa.a pa.n pa.c) ∧ w'.cell? ⟨gd, x.a.toNat * 3 + 2, none⟩ = some (.int .i64 pa.k)) ∧ (w'.cell? ⟨gd, x.b.toNat * 3, none⟩ = some (.int .i64 pb.v) ∧ w'.cell? ⟨gd, x.b.toNat * 3 + 1, none⟩ = some (.slice pb.a pb.n pb.c) ∧ w'.cell? ⟨gd, x.b.toNat * 3 + 2, none⟩ = some (.int .i64 pb.k))) := hide (fun w' h => by rw [hS'] at h; exact h)
          have HSI : Hid (S' (wr.alloc (.cells #[.int .i64 x.kind, .int .i64 x.d, .int .i64 x.a, .int .i64 x.b, .int .u64 (x.v.toNat : Int)] 89)).drew) := hide (by rw [hS']; exact ⟨⟨o0, o1, o2, o3, o4⟩, ⟨ca0, ca1, ca2⟩, ⟨cb0, cb1, cb2⟩⟩)
          have hgdq : gd < (wr.alloc (.cells #[.int .i64 x.kind, .int .i64 x.d, .int .i64 x.a, .int .i64 x.b, .int .u64 (x.v.toNat : Int)] 89)).drew.heap.size := Nat.lt_of_lt_of_le hgzV hdq.size
          have hgxq := hXb.lt
          have HST : Hid (∀ w4, Turned [w.heap.size + 1, w.heap.size] (wr.alloc (.cells #[.int .i64 x.kind, .int .i64 x.d, .int .i64 x.a, .int .i64 x.b, .int .u64 (x.v.toNat : Int)] 89)).drew w4 → S' w4) := hide (fun w4 hT4 => by
            have y0 := fun off => (tcell hT4 gx off hgxq hFx).1
            have y1 := fun off => (tcell hT4 gd off hgdq hFd).1
            rw [hS']
            exact ⟨⟨(y0 _).trans o0, (y0 _).trans o1, (y0 _).trans o2, (y0 _).trans o3, (y0 _).trans o4⟩, ⟨(y1 _).trans ca0, (y1 _).trans ca1, (y1 _).trans ca2⟩, ⟨(y1 _).trans cb0, (y1 _).trans cb1, (y1 _).trans cb2⟩⟩)
          have HPD := hide hpd
          have HTR := hide (hTR.belowN hdq)
          have HFI := hide hfine
          have HRS := hide hRS
          have HF := hide hF
          have HB1 := hide hbV
          have HDQ := hide hdq
          have HOW := hide hownq
          clear hfine hRS hL0 he0 hca hcb hsA hsB hpa hpb hpd hTR hF hownq hown' ca0 ca1 ca2 cb0 cb1 cb2 hS' hBM
          go_wp2
          refine wp_region_fan [0, 1, 2, 3, 4, 5, 6, 7, 8, 9, 10, 11, 12, 13, 14] [15, 16] [17, 18] [19, 20, 21] S' (by kernel_rfl) (by kernel_rfl) HSI.out ?_
          simp only [pickL, List.filterMap_cons, List.filterMap_nil, List.getElem?_cons_succ, List.getElem?_cons_zero]
          iterate 15
            apply headK_step (by rfl)
            · intro w' hw'
              obtain ⟨⟨s0, s1, s2, s3, s4⟩, ⟨s5, s6, s7⟩, ⟨s8, s9, s10⟩⟩ := HSE.out w' hw'
              go_simp
              rfl
            intro a' ha'
            simp only [Act.put, List.setIfInBounds_toArray, List.set_cons_succ, List.set_cons_zero] at ha'
            subst ha'
          refine headK_nil ?_
          rw [midF]
          intro K0 hK0
          have HK0 := hide hK0
          clear hK0
          go_simp
          go_at_call 86
          refine (HDO.out).mono ?_
          rintro e w4 ⟨z, rfl, hT4, hz4⟩
          refine HK0.out _ _ (HST.out w4 hT4) ?_
          clear HK0
          rw [midF]
          intro K0 hK0
          have HK0 := hide hK0
          clear hK0
          go_simp
          refine HK0.out _ _ (HST.out w4 hT4) ?_
          clear HK0 HST HSE HSI
          rw [midF]
          iterate 2
            apply headK_step (by rfl)
            · intro w' _
              go_simp
              rfl
            intro a' ha'
            simp only [Act.put, List.setIfInBounds_toArray, List.set_cons_succ, List.set_cons_zero] at ha'
            subst ha'
          refine headK_nil ?_
          have t0 := (tcell hT4 gd (x.d.toNat * 3) hgdq hFd).1.trans cd0
          have t1 := (tcell hT4 gd (x.d.toNat * 3 + 1) hgdq hFd).1.trans cd1
          have t2 := (tcell hT4 gd (x.d.toNat * 3 + 2) hgdq hFd).1.trans cd2
          have t3 := (tcell hT4 gd (x.d.toNat * 3) hgdq hFd).2.trans fd0
          have t4 := (tcell hT4 gd (x.d.toNat * 3 + 1) hgdq hFd).2.trans fd1
          have t5 := (tcell hT4 gd (x.d.toNat * 3 + 2) hgdq hFd).2.trans fd2
          have hR4 := (HOW.out.turned hT4 (fun g hg hm => by simp at hg; subst hg; exact hFd hm)).setSt HPD.out z
          have hg0 := grown_setCell w4 gd (x.d.toNat * 3) (.int .i64 z.v)
          have hg1 := grown_trans hg0 (grown_setCell _ gd (x.d.toNat * 3 + 1) (.slice z.a z.n z.c))
          have hg2 := grown_trans hg1 (grown_setCell _ gd (x.d.toNat * 3 + 2) (.int .i64 z.k))
          have hB4 := HB1.out.trans (HDQ.out.mono (by omega))
          have hB4' := (hT4.below hB4 (fun g hg => by simp at hg; omega) hB4.size)
          have hB5 := hB4'.grown hg2 hB4'.size (fun q hq => by injection hq with hq; omega)
          have hgd5 : gd < (((w4.setCell ⟨gd, x.d.toNat * 3, none⟩ (.int .i64 z.v)).setCell ⟨gd, x.d.toNat * 3 + 1, none⟩ (.slice z.a z.n z.c)).setCell ⟨gd, x.d.toNat * 3 + 2, none⟩ (.int .i64 z.k)).heap.size := Nat.lt_of_lt_of_le hgdq (Nat.le_trans hT4.size hg2.size)
          have HG2 := hide hg2
          have HT4 := hide hT4
          have HZ4 := hide hz4
          clear hg0 hg1 hg2 hT4 hz4 cd0 cd1 cd2 fd0 fd1 fd2
          go_wp2
          refine NoPanic.normal ?_
          by_cases he : e0 = 0
          · have he1 : (e0 == 0) = true := by simpa using he
            have he2 : (e0 != 0) = false := by simpa using he
            have hrr := HRS.out
            rw [if_pos he] at hrr
            obtain ⟨f1, f2⟩ := HFI.out he
            obtain ⟨ext, D', hz, hBM4, hext⟩ := HZ4.out he
            have hP5 := ((((HTR.out.turned HT4.out HF.out).more ext).set x.d.toNat hz).grown HG2.out (fun g hg => by injection hg with hg; subst hg; exact fun h => h.1 rfl))
            have hBM5 := hBM4.grown HG2.out (by omega) (by omega) (fun h => h.1 rfl)
            have hA6 := hAR.set f2 x.d.toNat
            have HRR := hide hrr
            have HE0 := hide he
            clear hrr f1 f2 he HZ4 hBM4 hz
            go_wp2
            go_roundw
            case rel => exact ⟨j + 1, _, _, PL ++ ext, D', by rw [HE0.out], by go_num, by omega, hR4, by simp [hTl'], hP5, hA6, HRR.out, hBM5, by rw [List.length_append]; omega, hB5, hgd5⟩
            case measure => simp [intOf] <;> omega
          · have he1 : (e0 == 0) = false := by simpa using he
            have he2 : (e0 != 0) = true := by simpa using he
            have hrr := HRS.out
            rw [if_neg he] at hrr
            injection hrr with hE1 hE2
            have HE1 := hide hE1
            have HE2 := hide hE2
            clear hE1 hE2 he
            go_wp2
            try rw [Exit.noGoto_ret]
            go_ret2
            refine ⟨none, 0, 0, [], ?_, by rw [← HE2.out]; rfl, Own.none _ _ _, by rw [← HE2.out]; exact PsAt.nil _ _ _, hB5⟩
            rw [← HE1.out]
            rfl
        · have hjn : j = ln := by omega
          subst hjn
          rw [show l.drop j = [] by rw [HLN.out, List.drop_length], runS] at hRS
          injection hRS with hE1 hE2
          have HE1 := hide hE1
          have HE2 := hide hE2
          have hRlen : R.length = k := by rw [← hTR.1]; exact hTl'
          obtain ⟨w2, rfl⟩ : ∃ w2 : World, w2 = wr := ⟨_, rfl⟩
          clear hE1 hE2 hBM hj
          go_wp2
          go_loopw [13, 73] (fun rv iv wr => ∃ (m : Nat) (a3 : Option Addr) (c3 : Nat) (hs3 : List PoH), rv = .slice a3 m c3 ∧ iv = .int .i64 m ∧ m ≤ k ∧ Own wr w2.heap.size 42 a3 c3 hs3 ∧ hs3.length = m ∧ PsAt (fun q => a3.map (·.block) ≠ some q) wr vk hs3 (R.take m) ∧ Below w2.heap.size w2 wr) (fun _ iv _ => k - (intOf iv).toNat)
          case atStart => exact ⟨0, none, 0, [], rfl, rfl, by omega, Own.none _ _ _, rfl, PsAt.nil _ _ _, Below.refl _ _⟩
          case round =>
            obtain ⟨m, a3, c3, hs3, rfl, rfl, hm, hown3, hl3, hP3, hb3⟩ := hrel
            have hz3 := hb3.size
            by_cases hlt3 : m < k
            · obtain ⟨y, hy⟩ : ∃ y, T'[m]? = some y := ⟨T'[m]'(by omega), List.getElem?_eq_getElem _⟩
              have hsy := (hTR.get hy).belowN hb3
              have hcy := hAR.get (k := m) (by omega)
              obtain ⟨L, hL⟩ : ∃ L, R.getD m [] = L := ⟨_, rfl⟩
              rw [hL] at hsy hcy
              have hrm : R[m]? = some L := by rw [← hL, List.getD_eq_getElem?_getD, List.getElem?_eq_getElem (by omega)]; rfl
              have htk : R.take (m + 1) = R.take m ++ [L] := by rw [List.take_add_one, hrm]; rfl
              have hown4 := hown'.belowN hb3
              have c0 := hown4.cellAt hy (f := 0) rfl
              have c1 := hown4.cellAt hy (f := 1) rfl
              have c2 := hown4.cellAt hy (f := 2) rfl
              simp only [Flat.n, Nat.add_zero] at c0 c1 c2
              rw [hsy.v] at c0
              obtain ⟨f1, f2⟩ := checkP_len hcy
              obtain ⟨g1, g2, g3⟩ := mk_self hcy
              obtain ⟨w3, rfl⟩ : ∃ w3 : World, w3 = wr := ⟨_, rfl⟩
              have hbs := below_box w3 (.cells #[.int .i64 vk, .slice y.a y.n y.c, .int .i64 y.k] 162)
              have hNs := Blk.new w3 162 #[.int .i64 vk, .slice y.a y.n y.c, .int .i64 y.k]
              obtain ⟨n0, n1, n2, n3, n4, n5⟩ := hNs.c3
              have HPM := hide (PMake_calls _ vk y.a y.n y.c L _ (hsy.t.belowN hbs) (by have := hsy.t.len; omega) f2 vk L 0 g2 g3 g1)
              have hown5 := hown3.belowN hbs
              have hP5 := (hP3.bounded).belowN hbs
              have hb5 := hb3.trans (hbs.mono hz3)
              have HKL := hide hl3.symm
              have HTK := hide htk
              have HVV := hide hsy.v
              clear hl3 htk hL hrm hy hsy hcy hown3 hown4 f1 f2 g1 g2 g3
              go_wp2_with (first
                | (at_builtin; go_must (have hgd := hT9; refine wpList_push tyPo hown10 ⟨vk, a9, n9, c9⟩ rfl rfl rfl rfl rfl (by simp) HKL.out hz10 (by omega) ?_; intro a4 c4 w4 hown6 hg6 hcs6))
                | (go_at_call 84; go_must ((with_reducible refine (HPM.out).mono ?_); rintro vv w9 ⟨a9, n9, c9, rfl, hT9, hb9⟩; have hb10 := hb9.trans ((below_box w9 (.cells #[.int .i64 vk, .slice a9 n9 c9] 42)).mono hb9.size); have hown10 := hown5.belowN hb10; have hz10 : w2.heap.size ≤ (w9.alloc (.cells #[.int .i64 vk, .slice a9 n9 c9] 42)).heap.size := (by have := hb5.size; have := hb10.size; omega); have hN10 := Blk.new w9 42 #[.int .i64 vk, .slice a9 n9 c9]; obtain ⟨p0, p1, p2, p3⟩ := hN10.c2)))
              have hb12 := below_push (hb5.trans (hb10.mono hb5.size)) hown10 hg6 hz10
              have hP6 := ((hP5.belowN hb10).grown hg6 (fun q hq h => h.1 hq)).imp (Q := fun q => a4.map (·.block) ≠ some q) (fun q hq => ne_push hcs6 hq.1 (by have := hbs.size; have := hb10.size; omega))
              have hT10 := ((hT9.bounded.belowN (below_box w9 (.cells #[.int .i64 vk, .slice a9 n9 c9] 42))).grown hg6 (fun q hq h => by have := (hown5.blk q hq).2; omega)).imp (Q := fun q => a4.map (·.block) ≠ some q) (fun q hq => ne_push hcs6 (fun e => by have := (hown5.blk q e).2; omega) (by rw [World.size_alloc]; omega))
              go_roundw
              case rel => exact ⟨m + 1, a4, c4, hs3 ++ [⟨vk, a9, n9, c9⟩], by go_num, by go_num, by omega, hown6, by simp [← HKL.out], by rw [HTK.out]; exact hP6.push rfl hT10, hb12⟩
              case measure => simp [intOf] <;> omega
            · have hmk : m = k := by omega
              subst hmk
              rw [show R.take m = R by rw [← hRlen, List.take_length]] at hP3
              go_wp2
              try rw [Exit.noGoto_ret]
              go_ret2
              refine ⟨a3, m, c3, hs3, ?_, by rw [← HE2.out, hRlen], hown3.mono hzV, by rw [← HE2.out]; exact hP3.imp fun _ _ => trivial, hbV.trans (hb3.mono hzV)⟩
              rw [← HE1.out]
              rfl
end Go.Proofs.YtcamcnahkdiefaaGreat

/- Several texts of mine in one file: R9a, R9b, R9c. -/
/- Chapter 9, the document's answers: what stands from a place up to another one; blocks. -/
namespace Go.Proofs.YtcamcnahkdiefaaGreat
set_option linter.unusedVariables false
set_option linter.unusedSimpArgs false
open Go.RowKit

/-- The place where a forest stands in all operations, with what belongs together. -/
structure Stands (l : List OpD) (m : List Int) (o : Nat) (f : Fo) : Prop where
  ok : f.ok
  ops : ∃ pre post, l = pre ++ f.flat ++ post ∧ pre.length = o
  mt : ∃ pre post, m = pre ++ mtT o f ++ post ∧ pre.length = o
theorem Stands.lt {l : List OpD} {m : List Int} {o : Nat} {f : Fo} (h : Stands l m o f) : o + f.size ≤ l.length ∧ o + f.size ≤ m.length := by
  obtain ⟨pre, post, e, hp⟩ := h.ops
  obtain ⟨pm, qm, e2, hp2⟩ := h.mt
  subst e e2
  simp [mtT_length, Fo.size]
  omega
theorem Stands.leaf {l : List OpD} {m : List Int} {o : Nat} {op : OpD} {r : Fo} (h : Stands l m o (.leaf op r)) : l[o]? = some op ∧ 1 ≤ op.kind ∧ op.kind ≤ 6 ∧ m[o]? = some (-1) ∧ Stands l m (o + 1) r := by
  obtain ⟨ok, ⟨pre, post, e, hp⟩, ⟨pm, qm, e2, hp2⟩⟩ := h
  refine ⟨?_, ok.1, ok.2.1, ?_, ok.2.2, ⟨pre ++ [op], post, by rw [e]; simp [Fo.flat], by simp [hp]⟩, ⟨pm ++ [-1], qm, by rw [e2]; simp [mtT], by simp [hp2]⟩⟩
  · subst hp; rw [e]; simp [Fo.flat]
  · subst hp2; rw [e2]; simp [mtT]
theorem Stands.rep {l : List OpD} {m : List Int} {o : Nat} {op fin : OpD} {b r : Fo} (h : Stands l m o (.rep op b fin r)) :
    l[o]? = some op ∧ op.kind = 7 ∧ m[o]? = some ((o + b.size + 1 : Nat) : Int) ∧ l[o + b.size + 1]? = some fin ∧ fin.kind = 0 ∧ m[o + b.size + 1]? = some (o : Int) ∧ Stands l m (o + 1) b ∧ Stands l m (o + b.size + 2) r := by
  obtain ⟨ok, ⟨pre, post, e, hp⟩, ⟨pm, qm, e2, hp2⟩⟩ := h
  obtain ⟨k1, k2, k3, k4⟩ := ok
  have e' : l = (pre ++ op :: b.flat) ++ fin :: (r.flat ++ post) := by rw [e]; simp [Fo.flat]
  have e2' : m = (pm ++ ((o + b.size + 1 : Nat) : Int) :: mtT (o + 1) b) ++ (o : Int) :: (mtT (o + b.size + 2) r ++ qm) := by rw [e2]; simp [mtT]
  have hb : b.flat.length = b.size := rfl
  refine ⟨?_, k1, ?_, ?_, k3, ?_, ⟨k2, ⟨pre ++ [op], fin :: (r.flat ++ post), by rw [e']; simp, by simp [hp]⟩, ⟨pm ++ [((o + b.size + 1 : Nat) : Int)], (o : Int) :: (mtT (o + b.size + 2) r ++ qm), by rw [e2']; simp, by simp [hp2]⟩⟩, ⟨k4, ⟨pre ++ op :: (b.flat ++ [fin]), post, by rw [e']; simp, by simp [hp]; omega⟩, ⟨pm ++ ((o + b.size + 1 : Nat) : Int) :: (mtT (o + 1) b ++ [(o : Int)]), qm, by rw [e2']; simp, by simp [hp2, mtT_length]; omega⟩⟩⟩
  · subst hp; rw [e]; simp [Fo.flat]
  · subst hp2; rw [e2]; simp [mtT]
  · rw [e', List.getElem?_append_right (by simp; omega)]
    simp only [List.length_append, List.length_cons]
    rw [show o + b.size + 1 - (pre.length + (b.flat.length + 1)) = 0 by omega]
    rfl
  · rw [e2', List.getElem?_append_right (by simp [mtT_length]; omega)]
    simp only [List.length_append, List.length_cons, mtT_length]
    rw [show o + b.size + 1 - (pm.length + (b.size + 1)) = 0 by omega]
    rfl
theorem Stands.whole {f : Fo} (hf : f.ok) : Stands f.flat (matchL f.flat) 0 f :=
  ⟨hf, ⟨[], [], by simp, rfl⟩, ⟨[], [], by rw [matchL_flat f hf]; simp, rfl⟩⟩

section
variable {a am : Option Addr} {c cm : Nat} {l : List OpD} {m : List Int}
end
end Go.Proofs.YtcamcnahkdiefaaGreat

/- Chapter 9, the document's answers: Writes, Sizes, Rounds. -/
namespace Go.Proofs.YtcamcnahkdiefaaGreat
set_option linter.unusedVariables false
set_option linter.unusedSimpArgs false
open Go.RowKit

/-- What stands at a place of a forest. -/
theorem Stands.at_ {l : List OpD} {m : List Int} (f : Fo) : ∀ {o : Nat}, Stands l m o f → ∀ i, i < f.size → ∃ x, f.flat[i]? = some x ∧ l[o + i]? = some x ∧
    ((x.kind = 7 ∧ ∃ b fin r, Stands l m (o + i) (.rep x b fin r) ∧ f.sizes[i]? = some ((b.wr * x.v.toNat : Nat) : Int) ∧ f.rounds[i]? = some (b.wr : Int)) ∨
     (x.kind = 0 ∧ f.sizes[i]? = some 0 ∧ f.rounds[i]? = some 0) ∨ (1 ≤ x.kind ∧ x.kind ≤ 6 ∧ f.sizes[i]? = some 1 ∧ f.rounds[i]? = some 0)) := by
  induction f with
  | nil => intro o h i hi; simp [Fo.size, Fo.flat] at hi
  | leaf op r ih =>
    intro o h i hi
    obtain ⟨e1, k1, k2, e2, hr⟩ := h.leaf
    rw [Fo.size_leaf] at hi
    cases i with
    | zero => exact ⟨op, rfl, e1, .inr (.inr ⟨k1, k2, rfl, rfl⟩)⟩
    | succ i =>
      obtain ⟨x, g1, g2, g3⟩ := ih hr i (by omega)
      rw [show o + 1 + i = o + (i + 1) by omega] at g2 g3
      exact ⟨x, by simpa [Fo.flat] using g1, g2, by simpa [Fo.sizes, Fo.rounds] using g3⟩
  | rep op b fin r ihb ihr =>
    intro o h i hi
    obtain ⟨e1, k7, e3, e4, k0, e6, hb, hr⟩ := h.rep
    rw [Fo.size_rep] at hi
    have hbs : b.flat.length = b.size := rfl
    cases i with
    | zero => exact ⟨op, rfl, e1, .inl ⟨k7, b, fin, r, h, rfl, rfl⟩⟩
    | succ i =>
      by_cases h1 : i < b.size
      · obtain ⟨x, g1, g2, g3⟩ := ihb hb i h1
        rw [show o + 1 + i = o + (i + 1) by omega] at g2 g3
        refine ⟨x, by simp only [Fo.flat, List.getElem?_cons_succ]; rw [List.getElem?_append_left (by omega)]; exact g1, g2, ?_⟩
        simp only [Fo.sizes, Fo.rounds, List.getElem?_cons_succ]
        rw [List.getElem?_append_left (by rw [Fo.sizes_length]; omega), List.getElem?_append_left (by rw [Fo.rounds_length]; omega)]
        exact g3
      · by_cases h2 : i = b.size
        · subst h2
          refine ⟨fin, by simp only [Fo.flat, List.getElem?_cons_succ]; rw [List.getElem?_append_right (by omega)]; simp [hbs], by rw [show o + (b.size + 1) = o + b.size + 1 by omega]; exact e4, .inr (.inl ⟨k0, ?_, ?_⟩)⟩
          · simp only [Fo.sizes, List.getElem?_cons_succ]
            rw [List.getElem?_append_right (by rw [Fo.sizes_length]; omega), Fo.sizes_length]; simp
          · simp only [Fo.rounds, List.getElem?_cons_succ]
            rw [List.getElem?_append_right (by rw [Fo.rounds_length]; omega), Fo.rounds_length]; simp
        · obtain ⟨i', hi'⟩ : ∃ i', i - b.size = i' + 1 := ⟨i - b.size - 1, by omega⟩
          obtain ⟨x, g1, g2, g3⟩ := ihr hr i' (by omega)
          rw [show o + b.size + 2 + i' = o + (i + 1) by omega] at g2 g3
          refine ⟨x, by simp only [Fo.flat, List.getElem?_cons_succ]; rw [List.getElem?_append_right (by omega), hbs, hi']; simpa using g1, g2, ?_⟩
          simp only [Fo.sizes, Fo.rounds, List.getElem?_cons_succ]
          rw [List.getElem?_append_right (by rw [Fo.sizes_length]; omega), List.getElem?_append_right (by rw [Fo.rounds_length]; omega), Fo.sizes_length, Fo.rounds_length, hi']
          simpa using g3
/-- Two blocks that begin at one place are one. -/
theorem Stands.one {l : List OpD} {m : List Int} {o : Nat} {op op' fin fin' : OpD} {b b' r r' : Fo} (h : Stands l m o (.rep op b fin r)) (h' : Stands l m o (.rep op' b' fin' r')) : op = op' ∧ b = b' := by
  obtain ⟨pre, post, e, hp⟩ := h.ops
  obtain ⟨pre', post', e', hp'⟩ := h'.ops
  have k := h.ok
  have k' := h'.ok
  rw [e] at e'
  simp only [Fo.flat, List.append_assoc, List.cons_append] at e'
  obtain ⟨e1, e2⟩ := List.append_inj e' (by omega)
  injection e2 with e2 e3
  exact ⟨e2, (Fo.flat_inj b k.2.1 b' k'.2.1 _ _ _ _ k.2.2.1 k'.2.2.1 e3).1⟩
/-- what is told of a forest's size -/
theorem sizeE_flat {f : Fo} (hf : f.ok) : sizeE f.flat = if f.may = true ∧ f.wr ≤ 65536 then 0 else 9 := by
  unfold sizeE
  rw [if_pos (well_of_flat f hf), measL_flat f hf]
  by_cases h : f.may = true ∧ f.wr ≤ 65536
  · rw [if_pos h, if_pos h]; rfl
  · rw [if_neg h, if_neg h]; rfl
theorem sizes_flat {f : Fo} (hf : f.ok) : sizeW f.flat = (if f.may = true ∧ f.wr ≤ 65536 then (f.wr : Int) else 0) ∧ sizeZ f.flat = (if f.may = true ∧ f.wr ≤ 65536 then f.sizes else []) ∧ sizeR f.flat = (if f.may = true ∧ f.wr ≤ 65536 then f.rounds else []) := by
  unfold sizeW sizeZ sizeR measO
  rw [if_pos (well_of_flat f hf), measL_flat f hf]
  by_cases h : f.may = true ∧ f.wr ≤ 65536
  · rw [if_pos h, if_pos h, if_pos h, if_pos h]; exact ⟨rfl, rfl, rfl⟩
  · rw [if_neg h, if_neg h, if_neg h, if_neg h]; exact ⟨rfl, rfl, rfl⟩
end Go.Proofs.YtcamcnahkdiefaaGreat

/- Chapter 9, the document's answers: Writes, Sizes, Rounds, walked. -/
namespace Go.Proofs.YtcamcnahkdiefaaGreat
set_option linter.unusedVariables false
set_option linter.unusedSimpArgs false
open Go.RowKit

section
variable {a am : Option Addr} {c cm : Nat} {l : List OpD}
end
/-- Two facts on a place of well nested operations. -/
theorem place9 {f : Fo} (hf : f.ok) {k : Nat} {x : OpD} (hx : f.flat[k]? = some x) :
    (x.kind = 7 ∧ ∃ b fin r, Stands f.flat (matchL f.flat) k (.rep x b fin r) ∧ f.sizes[k]? = some ((b.wr * x.v.toNat : Nat) : Int) ∧ f.rounds[k]? = some (b.wr : Int) ∧ (matchL f.flat)[k]? = some ((k + 1 + b.size : Nat) : Int)) ∨
     (x.kind = 0 ∧ f.sizes[k]? = some 0 ∧ f.rounds[k]? = some 0) ∨ (1 ≤ x.kind ∧ x.kind ≤ 6 ∧ f.sizes[k]? = some 1 ∧ f.rounds[k]? = some 0) := by
  have hk : k < f.size := (List.getElem?_eq_some_iff.1 hx).1
  obtain ⟨y, h1, h2, h3⟩ := Stands.at_ f (Stands.whole hf) k hk
  obtain rfl : x = y := by have := hx.symm.trans h1; simpa using this
  rw [Nat.zero_add] at h3
  rcases h3 with ⟨h7, b, fin, r, hs, e1, e2⟩ | h3 | h3
  · refine .inl ⟨h7, b, fin, r, hs, e1, e2, ?_⟩
    have := hs.rep.2.2.1
    rw [this]
    congr 2
    omega
  · exact .inr (.inl h3)
  · exact .inr (.inr h3)
theorem Stands.same {l : List OpD} {m : List Int} {o : Nat} {op x : OpD} {b fin r} (h : Stands l m o (.rep op b fin r)) (hx : l[o]? = some x) : op = x := by
  have := h.rep.1.symm.trans hx; simpa using this

/-- what Writes tells, when sizes may be -/
theorem W9_ok {f : Fo} (hf : f.ok) (h : f.may = true ∧ f.wr ≤ 65536) : sizeE f.flat = 0 ∧ sizeW f.flat = f.wr ∧ sizeZ f.flat = f.sizes ∧ sizeR f.flat = f.rounds := by
  rw [sizeE_flat hf, (sizes_flat hf).1, (sizes_flat hf).2.1, (sizes_flat hf).2.2, if_pos h, if_pos h, if_pos h, if_pos h]; exact ⟨rfl, rfl, rfl, rfl⟩
end Go.Proofs.YtcamcnahkdiefaaGreat
