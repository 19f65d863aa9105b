/- Chapter 8: what the walk's callees do; what belongs together, how deep it is, what stands around. -/
import Derived.Test.YtoklehndfncmnaaN8a
namespace Go.Proofs.Ytoklehndfncmnaa
set_option linter.unusedVariables false
set_option linter.unusedSimpArgs false
open Go.RowKit

theorem Own.far {α : Type} [Flat α] {w : World} {B : Nat} {E : TypeId} {a : Option Addr} {c : Nat} {l : List α} (h : Own w B E a c l) {p : Addr} (hp : a.map (·.block) ≠ some p.block) (u : Value) : Own (w.setCell p u) B E a c l :=
  h.keep fun k hk _ => Below.heap_setCell w p u k (fun e => hp (by rw [hk, e]))
theorem Turned.drew {F : List Nat} {w w' : World} (h : Turned F w w') : Turned F w w'.drew := ⟨h.os, h.tape, h.output, h.size, h.block⟩
theorem Turned.drewN {F : List Nat} {w w' : World} (h : Turned F w w') (n : Nat) : Turned F w (w'.drewN n) := ⟨h.os, h.tape, h.output, h.size, h.block⟩
theorem Own.blk_ne {α : Type} [Flat α] {w : World} {B : Nat} {E T : TypeId} {a : Option Addr} {c : Nat} {l : List α} {g : Nat} {cs : Array Value} (h : Own w B E a c l) (hb : Blk w g T cs) (hne : E ≠ T) : a.map (·.block) ≠ some g := by
  rcases h.2 with ⟨hv, h0⟩ | ⟨g', cap, cur, hv, _, hg, _⟩
  · injection hv with h1; rw [h1]; simp
  · injection hv with h1
    rw [h1]
    intro e
    simp at e
    subst e
    unfold Blk at hb
    rw [hg] at hb
    injection hb with hb
    injection hb with _ hb
    exact hne hb
theorem Own.ne_own {α : Type} [Flat α] {w : World} {B : Nat} {E : TypeId} {a : Option Addr} {c : Nat} {l : List α} {g : Nat} (h : Own w B E a c l) (hg : w.heap.size ≤ g) : a.map (·.block) ≠ some g := fun e => by
  have := (h.blk g e).2
  omega

/-- what is known ahead of operation k -/
def outAt (l : List OpD) (k : Nat) : List Int := mF 0 [] (List.replicate l.length 0) (l.take k)
theorem outAt_succ (l : List OpD) (k : Nat) (x : OpD) (h : l[k]? = some x) : outAt l (k + 1) = mstep (stAt l k) (outAt l k) k x := by
  have hk : k < l.length := (List.getElem?_eq_some_iff.1 h).1
  unfold outAt stAt
  rw [List.take_add_one, h, mF_append]
  simp [mF]
  rw [Nat.min_eq_left (by omega)]
theorem outAt_length (l : List OpD) (k : Nat) : (outAt l k).length = l.length := by unfold outAt; rw [mF_length]; simp
/-- every open block began ahead -/
theorem stF_lt (l : List OpD) : ∀ (i : Nat) (st : List Int), (∀ z ∈ st, 0 ≤ z ∧ z < i) → ∀ z ∈ stF i st l, 0 ≤ z ∧ z < i + l.length := by
  induction l with
  | nil => intro i st h z hz; have := h z hz; exact ⟨this.1, by simpa using this.2⟩
  | cons x r ih =>
    intro i st h z hz
    have := ih (i + 1) (stk st i x) (fun y hy => by
      unfold stk at hy
      split at hy
      · rcases List.mem_append.1 hy with hy | hy
        · have := h y hy; omega
        · simp at hy; omega
      · split at hy
        · have := h y (List.dropLast_subset _ hy); omega
        · have := h y hy; omega) z hz
    simp only [List.length_cons]
    omega
theorem stAt_lt (l : List OpD) (k : Nat) (hk : k ≤ l.length) : ∀ z ∈ stAt l k, 0 ≤ z ∧ z < k := by
  intro z hz
  have := stF_lt (l.take k) 0 [] (fun z hz => by simp at hz) z hz
  simp at this
  omega

/-- What Match's callee leaves. -/
def MPost (w : World) (B bp go co : Nat) (ap : Option Addr) (out st : List Int) (w' : World) : Prop :=
  ∃ ap' cp' n', n' = st.length ∧ Own w' B 3 (some ⟨go, 0, none⟩) co out ∧ Blk w' bp 67 #[.slice ap' n' cp'] ∧ Own w' B 3 ap' cp' st ∧ Turned (go :: bp :: (ap.map (·.block)).toList) w w' ∧ (ap'.map (·.block) = ap.map (·.block) ∨ ∃ g, ap'.map (·.block) = some g ∧ w.heap.size ≤ g)

section
variable {w : World} {B bo bl bp go co cp N n c : Nat} {a ap : Option Addr} {l : List OpD} {out st : List Int}

set_option maxHeartbeats 1600000 in
theorem MatchClo_calls (k : Nat) (x : OpD) (b2 : Option Addr) (n2 d2 : Nat) (hx : l[k]? = some x) (hk0 : x.kind = 0 → st ≠ []) (hst : ∀ z ∈ st, 0 ≤ z ∧ z < k) (hN : N = l.length) (hout : out.length = l.length) (hl : l.length ≤ 1000000) (hnst : n = st.length) (hn : n ≤ 1000000)
    (hbo : Blk w bo 67 #[.slice (some ⟨go, 0, none⟩) N co]) (hbl : Blk w bl 22 #[.slice a N c]) (hbp : Blk w bp 67 #[.slice ap n cp]) (hat : At w a l) (hown : Own w B 3 (some ⟨go, 0, none⟩) co out) (hop : Own w B 3 ap cp st)
    (e1 : bo ≠ bp) (e2 : ap.map (·.block) ≠ some go) (e3 : a.map (·.block) ≠ some go) (e4 : a.map (·.block) ≠ some bp) :
    Calls Try.prog 49 #[.int .i64 k, .slice b2 n2 d2, .pointer (some ⟨bo, 0, none⟩), .pointer (some ⟨bl, 0, none⟩), .pointer (some ⟨bp, 0, none⟩)] w fun e w' => e = .returned (.tuple #[]) ∧
      MPost w B bp go co ap (mstep st out k x) (stk st k x) w' := by
  have hkl : k < l.length := (List.getElem?_eq_some_iff.1 hx).1
  have f1 : go ≠ bo := by have := hown.blk_ne hbo (by decide); simpa using this
  have f2 : go ≠ bl := by have := hown.blk_ne hbl (by decide); simpa using this
  have f3 : go ≠ bp := by have := hown.blk_ne hbp (by decide); simpa using this
  have f4 : bl ≠ bp := by rintro rfl; unfold Blk at hbl hbp; rw [hbl] at hbp; injection hbp with hbp; injection hbp with _ hbp; cases hbp
  have f5 : ap.map (·.block) ≠ some bp := hop.blk_ne hbp (by decide)
  have f6 : ap.map (·.block) ≠ some bo := hop.blk_ne hbo (by decide)
  obtain ⟨b1, off1, y, rfl, hy, x0, x1, x2, x3, x4⟩ := hat.getOp (Below.refl _ _) hkl
  obtain rfl : x = y := by have := hx.symm.trans hy.out; simpa using this
  have g1 : b1 ≠ go := by simpa using e3
  have g2 : b1 ≠ bp := by simpa using e4
  obtain ⟨p0, p1⟩ := hbo.c1
  obtain ⟨q0, q1⟩ := hbl.c1
  obtain ⟨r0, r1⟩ := hbp.c1
  obtain ⟨z, u, hz1, hz2, hz3⟩ := hown.cell1 (i := k) (by omega) rfl
  have hfz := hown.frozen k
  have s1 := f1.symm
  have s2 := f2.symm
  have s3 := f3.symm
  have s4 := f4.symm
  have s5 := e1.symm
  have hNk : k < N := by omega
  have hNl : N ≤ 1000000 := by omega
  have HN := hide hN
  have HNS := hide hnst
  have HO := hide hout
  have HST := hide hst
  clear hx hy hN hout hst hz1 hz2 hnst
  by_cases hk7 : x.kind = 7
  · have hm : mstep st out k x = out.set k (-1) := by unfold mstep; rw [if_neg (by omega)]
    have hs : stk st k x = st ++ [(k : Int)] := by unfold stk; rw [if_pos hk7]
    rw [hm, hs]
    have hkk7 : (x.kind == 7) = true := by simpa using hk7
    have hop1 := hop.far (p := ⟨go, k, none⟩) e2 (.int .i64 (-1))
    have hB1 : B ≤ (w.setCell ⟨go, k, none⟩ (.int .i64 (-1))).heap.size := by have := (hown.blk go rfl); simp; omega
    clear hm hs hk7 hk0
    go_enter Try.func49, Try.ntmps49
    go_wp2_with (at_builtin; refine wpList_push tyI hop1 (k : Int) rfl rfl rfl rfl rfl (by simp) HNS.out hB1 (by omega) ?_; intro a3 c3 w3 hown3 hg3 hm3; have hbp3 := (hbp.far (p := ⟨go, k, none⟩) s3 (.int .i64 (-1))).grown hg3 (fun e => f5 e.symm); obtain ⟨t0, t1⟩ := hbp3.c1)
    go_end0
    have hg4 : go ∉ (ap.map (·.block)).toList := by intro hm; exact e2 (by simpa using hm)
    have hown4 := (hown.set1 k (-1) (.int .i64 (-1)) rfl).grown hg3 (.inr (fun e => e2 e.symm))
    have hT : Turned (go :: bp :: (ap.map (·.block)).toList) w w3 := by
      refine Turned.trans (F' := (ap.map (·.block)).toList) (Turned.ofGrown (grown_setCell w go k (.int .i64 (-1))) (fun g hg => ?_)) (Turned.ofGrown hg3 (fun g hg => .inl (by rw [hg]; simp))) (fun g hg => .inl ?_)
      · injection hg with hg
        simp [hg]
      · exact List.mem_cons_of_mem _ (List.mem_cons_of_mem _ hg)
    refine ⟨rfl, ?_⟩
    unfold MPost
    refine ⟨a3, c3, n + 1, by simp [HNS.out], hown4.far (by simpa using f3) _, by simpa using hbp3.set_ 0 (.slice a3 (n + 1) c3), hown3.far ?_ _, ?_, ?_⟩
    · rcases hm3 with e | ⟨g, e, hle⟩
      · rw [e]; exact f5
      · rw [e]; have := hbp.lt; simp at hle ⊢; omega
    · exact hT.trans (F' := [bp]) (Turned.ofGrown (grown_setCell _ _ _ _) (fun g hg => .inl (by injection hg with hg; simp [hg]))) (fun g hg => .inl (by simp at hg; simp [hg]))
    · rcases hm3 with e | ⟨g, e, hle⟩
      · exact .inl e
      · exact .inr ⟨g, e, by simpa using hle⟩
  · by_cases hk : x.kind = 0
    · have hne := hk0 hk
      obtain ⟨gp, rfl, hgp1, hgp2⟩ := hop.some_ hne
      have hlast := List.getLast?_eq_some_getLast hne
      obtain ⟨j, hj⟩ : ∃ j : Nat, st.getLast hne = (j : Int) := ⟨(st.getLast hne).toNat, by have := HST.out _ (List.getLast_mem hne); omega⟩
      have hjk : j < k := by have := HST.out _ (List.getLast_mem hne); omega
      rw [hj] at hlast
      have hm : mstep st out k x = ((out.set k (-1)).set k (j : Int)).set j (k : Int) := by unfold mstep; rw [if_pos hk, hlast]; simp
      have hs : stk st k x = st.dropLast := by unfold stk; rw [if_neg hk7, if_pos hk]
      rw [hm, hs]
      have hpos : 0 < n := by have := HNS.out; have := List.length_pos_iff.2 hne; omega
      have hsl : st[n - 1]? = some (j : Int) := by rw [HNS.out, ← List.getLast?_eq_getElem?]; exact hlast
      obtain ⟨y1, v1, hy1, hy2, hy3⟩ := hop.cell1 (i := n - 1) (by rw [← HNS.out]; omega) rfl
      have hyj : y1 = (j : Int) := by have := hy1.symm.trans hsl; simpa using this
      subst hyj
      have hv1 : v1 = .int .i64 (j : Int) := by simpa [Flat.enc] using hy2.symm
      subst hv1
      obtain ⟨y2, v2, hy4, hy5, hy6⟩ := hown.cell1 (i := j) (by have := HO.out; omega) rfl
      have hfj := hown.frozen j
      have hkk7 : (x.kind == 7) = false := by simpa using hk7
      have hkk0 : (x.kind == 0) = true := by simpa using hk
      have h7 : gp ≠ go := by simpa using e2
      have h8 : gp ≠ bp := by simpa using f5
      have hcp : n ≤ cp := by rw [HNS.out]; exact hop.cap.1
      have hpop := hop.pop hne
      have HM := hide hm
      have hjN : j < N := by omega
      clear hm hs hlast hj hsl hy1 hy2 hy4 hy5 hk hk7 hk0
      go_enter Try.func49, Try.ntmps49
      go_wp2
      go_region
      all_goals go_wp2
      all_goals go_end0
      all_goals
        refine ⟨rfl, ?_⟩
        unfold MPost
        have hw1 := ((((hown.set1 k (-1) (.int .i64 (-1)) rfl).far (p := ⟨bp, 0, none⟩) (by simpa using f3) (.slice (some ⟨gp, 0, none⟩) (n - 1) cp)).set1 k (j : Int) (.int .i64 (j : Int)) rfl).set1 j (k : Int) (.int .i64 (k : Int)) rfl)
        have hw2 := (((hbp.far (p := ⟨go, k, none⟩) s3 (.int .i64 (-1))).set_ 0 (.slice (some ⟨gp, 0, none⟩) (n - 1) cp)).far (p := ⟨go, k, none⟩) s3 (.int .i64 (j : Int))).far (p := ⟨go, j, none⟩) s3 (.int .i64 (k : Int))
        have hw3 := (((hpop.far (p := ⟨go, k, none⟩) (by simpa using h7) (.int .i64 (-1))).far (p := ⟨bp, 0, none⟩) (by simpa using h8) (.slice (some ⟨gp, 0, none⟩) (n - 1) cp)).far (p := ⟨go, k, none⟩) (by simpa using h7) (.int .i64 (j : Int))).far (p := ⟨go, j, none⟩) (by simpa using h7) (.int .i64 (k : Int))
        have hw4 := hw2
        simp at hw4
        have t1 : ∀ (w : World) (i : Nat) (u : Value), Turned [go] w (w.setCell ⟨go, i, none⟩ u) := fun w i u => Turned.ofGrown (grown_setCell w go i u) (fun g hg => by injection hg with hg; simp [hg])
        have t2 : ∀ (w : World) (i : Nat) (u : Value), Turned [bp] w (w.setCell ⟨bp, i, none⟩ u) := fun w i u => Turned.ofGrown (grown_setCell w bp i u) (fun g hg => by injection hg with hg; simp [hg])
        refine ⟨some ⟨gp, 0, none⟩, cp, n - 1, by rw [HNS.out]; simp, hw1, hw4, hw3, ?_, .inl rfl⟩
        have hh : Turned (go :: bp :: ((some gp : Option Nat)).toList) w w := Turned.refl _ _
        refine Turned.drew (Turned.mono (F := go :: bp :: (some gp).toList) ?_ (fun g hg => .inl hg))
        exact (((hh.trans (t1 _ _ _) (fun g hg => .inl (by simp at hg; simp [hg]))).trans (t2 _ _ _) (fun g hg => .inl (by simp at hg; simp [hg]))).trans (t1 _ _ _) (fun g hg => .inl (by simp at hg; simp [hg]))).trans (t1 _ _ _) (fun g hg => .inl (by simp at hg; simp [hg]))
    · have hm : mstep st out k x = out.set k (-1) := by unfold mstep; rw [if_neg hk]
      have hs : stk st k x = st := by unfold stk; rw [if_neg hk7, if_neg hk]
      rw [hm, hs]
      have hkk7 : (x.kind == 7) = false := by simpa using hk7
      have hkk0 : (x.kind == 0) = false := by simpa using hk
      clear hm hs hk7 hk hk0
      go_enter Try.func49, Try.ntmps49
      go_wp2
      go_end0
      refine ⟨rfl, ?_⟩
      unfold MPost
      exact ⟨ap, cp, n, HNS.out, hown.set1 k (-1) (.int .i64 (-1)) rfl, hbp.far (p := ⟨go, k, none⟩) s3 _, hop.far (p := ⟨go, k, none⟩) e2 _, Turned.ofGrown (grown_setCell w go k _) (fun g hg => .inl (by injection hg with hg; simp [hg])), .inl rfl⟩
end
end Go.Proofs.Ytoklehndfncmnaa
