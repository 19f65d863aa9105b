/- Several texts of mine in one file: Syk, Syl, Sym, Syn, Syo. -/
import Derived.Test.YtcamcnahkdiefaaGreatSyj
import Derived.Test.YtcamcnahkdiefaaGreatQj
import Derived.Test.YtcamcnahkdiefaaGreatRg4
/- What symbol's functions answer, in plain words; the page's example. -/
namespace Go.Proofs.YtcamcnahkdiefaaGreat
set_option linter.unusedVariables false
set_option linter.unusedSimpArgs false
open Go.RowKit
/-- the registers' own polynomials -/
def startP (n : Nat) : List (List Tm) := (List.range n).map fun (i : Nat) => varL (n : Int) (i : Int)
/-- which polynomials a program's registers are, or why none -/
noncomputable def polysS (regs : Int) (l : List OpD) : Int × List (List Tm) := if checkS regs l = 0 then runS regs (unrS regs l) (startP regs.toNat) else (checkS regs l, [])
/-- a register's derivatives, or why none -/
noncomputable def gradS (regs : Int) (l : List OpD) (k : Int) : Int × List (List Tm) :=
  if (polysS regs l).1 ≠ 0 then ((polysS regs l).1, []) else if k < 0 ∨ (((polysS regs l).2.length : Nat) : Int) ≤ k then (2, [])
  else (0, (List.range (polysS regs l).2.length).map fun i => sortT (drvT i ((polysS regs l).2.getD k.toNat [])))
/-- may these be what registers were? -/
def okStart (v0 : Int) : List Int → List (List Tm) → Bool
  | v :: vs, L :: r => checkP v L && decide (v = v0) && okStart v0 vs r
  | _, _ => true
/-- what registers are of what they were, or why nothing -/
noncomputable def afterS (regs : Int) (l : List OpD) (vs : List Int) (r : List (List Tm)) : Int × List (List Tm) :=
  if checkS regs l ≠ 0 then (checkS regs l, []) else if (r.length : Int) ≠ regs then (10, []) else if okStart (vs.headD 0) vs r = false then (2, []) else runS (vs.headD 0) (unrS regs l) r
theorem varB_not {n i : Nat} (h : n ≤ 64) (hi : i < n) : ¬ varBad (n : Int) (i : Int) := by unfold varBad; omega
theorem varT_right {n i : Nat} (h : n ≤ 64) (hi : i < n) : rightL (n : Int) (varT (n : Int) (i : Int)) = true := by
  unfold rightL varT
  simp only [List.all_cons, List.all_nil, Bool.and_true]
  unfold rightT
  simp only [Int.toNat_natCast, List.length_set, List.length_replicate, decide_true, Bool.true_and, Bool.not_eq_true', List.any_eq_false, Bool.or_eq_true, decide_eq_true_eq, not_or]
  intro x hx
  rcases List.mem_or_eq_of_mem_set hx with h1 | h1
  · have := List.eq_of_mem_replicate h1; omega
  · omega
theorem sortT_one {t : Tm} (h : t.1 ≠ 0) : sortT [t] = [t] := by
  rw [sortT]
  simp [nzT, h]
theorem var_facts {n i : Nat} (h : n ≤ 64) (hi : i < n) : varE (n : Int) (i : Int) = 0 ∧ varV (n : Int) (i : Int) = n ∧ varL (n : Int) (i : Int) = varT (n : Int) (i : Int) ∧ checkP (n : Int) (varL (n : Int) (i : Int)) = true := by
  have hb := varB_not h hi
  have hs : sortT (varT (n : Int) (i : Int)) = varT (n : Int) (i : Int) := sortT_one (show (1 : UInt64) ≠ 0 by decide)
  have hl : (sortT (varT (n : Int) (i : Int))).length ≤ 4096 := by rw [hs]; exact (by decide : 1 ≤ 4096)
  have hv : ¬ ((n : Int) < 0 ∨ 64 < (n : Int)) := by omega
  obtain ⟨h1, h2, h3⟩ := mk_of_ok hv (varT_right h hi) hl
  have e1 : varL (n : Int) (i : Int) = varT (n : Int) (i : Int) := by unfold varL; rw [if_neg hb, h3, hs]
  refine ⟨by unfold varE; rw [if_neg hb]; exact h1, by unfold varV; rw [if_neg hb]; exact h2, e1, ?_⟩
  rw [e1]
  have := check_sort hv (varT_right h hi) hl
  rw [hs] at this
  exact this
theorem startP_len (n : Nat) : (startP n).length = n := by unfold startP; simp
theorem startP_get {n k : Nat} (hk : k < n) : (startP n)[k]? = some (varL (n : Int) (k : Int)) := by unfold startP; simp [hk]
theorem startP_all {n : Nat} (h : n ≤ 64) : AllP (n : Int) (startP n) := fun L hL => by
  unfold startP at hL
  obtain ⟨i, hi, rfl⟩ := List.mem_map.1 hL
  exact (var_facts h (List.mem_range.1 hi)).2.2.2
theorem runS_len {va : Int} : ∀ (l : List OpD) (r : List (List Tm)) (E : Int) (R : List (List Tm)), runS va l r = (E, R) → (E = 0 → R.length = r.length) ∧ (E ≠ 0 → R = [])
  | [], r, E, R, h => by
    simp only [runS, Prod.mk.injEq] at h
    exact ⟨fun _ => by rw [← h.2], fun hE => absurd h.1.symm hE⟩
  | x :: l, r, E, R, h => by
    rw [runS] at h
    split at h
    · have := runS_len l _ E R h
      exact ⟨fun hE => by rw [this.1 hE, List.length_set], this.2⟩
    · rename_i h0
      simp only [Prod.mk.injEq] at h
      exact ⟨fun hE => absurd (h.1.trans hE) h0, fun _ => h.2.symm⟩
theorem runS_all {va : Int} : ∀ (l : List OpD) (r : List (List Tm)) (E : Int) (R : List (List Tm)), (∀ x ∈ l, x.a.toNat < r.length) → AllP va r → runS va l r = (E, R) → AllP va R
  | [], r, E, R, _, hA, h => by
    simp only [runS, Prod.mk.injEq] at h
    rw [← h.2]; exact hA
  | x :: l, r, E, R, hx, hA, h => by
    rw [runS] at h
    split at h
    · rename_i h0
      refine runS_all l _ E R (fun y hy => ?_) (hA.set (sym_fine (hA.get (hx x List.mem_cons_self)) h0).2 _) h
      rw [List.length_set]; exact hx y (List.mem_cons_of_mem _ hy)
    · simp only [Prod.mk.injEq] at h
      rw [← h.2]; intro L hL; cases hL
theorem polysS_len {regs : Int} {l : List OpD} {E : Int} {R : List (List Tm)} (h : polysS regs l = (E, R)) : (E = 0 → R.length = regs.toNat) ∧ (E ≠ 0 → R = []) := by
  unfold polysS at h
  split at h
  · have := runS_len _ _ _ _ h
    rw [startP_len] at this
    exact this
  · rename_i h0
    simp only [Prod.mk.injEq] at h
    exact ⟨fun hE => absurd (h.1.trans hE) h0, fun _ => h.2.symm⟩
theorem polysS_all {regs : Int} {l : List OpD} {E : Int} {R : List (List Tm)} (h : polysS regs l = (E, R)) : AllP regs R := by
  by_cases hc : checkS regs l = 0
  · unfold polysS at h
    rw [if_pos hc] at h
    obtain ⟨f, rfl, g⟩ := good_of_check hc
    rw [unrS_good g] at h
    obtain ⟨n, rfl⟩ : ∃ n : Nat, regs = n := ⟨regs.toNat, by have := g.r1; omega⟩
    rw [Int.toNat_natCast] at h
    refine runS_all _ _ _ _ (fun x hx => ?_) (startP_all (by have := g.r2; omega)) h
    rw [startP_len]
    have := (g.inR x hx).2.1
    omega
  · unfold polysS at h
    rw [if_neg hc] at h
    simp only [Prod.mk.injEq] at h
    rw [← h.2]; intro L hL; cases hL
end Go.Proofs.YtcamcnahkdiefaaGreat

/- symbol.Polys, symbol.Gradient, and the document's answer. -/
namespace Go.Proofs.YtcamcnahkdiefaaGreat
set_option linter.unusedVariables false
set_option linter.unusedSimpArgs false
open Go.RowKit
set_option maxRecDepth 100000 in
set_option maxHeartbeats 6400000 in
theorem Polys_bad (regs : Int) (a : Option Addr) (c : Nat) (l : List OpD) (w : World) (h : At w a l) (hl : l.length ≤ 1000000) (hc : checkS regs l ≠ 0) (E : Int) (hE : checkS regs l = E) :
    Calls Tryz.prog 12 #[.agg #[.int .i64 regs, .slice a l.length c]] w (PolysOut regs [] E w) := by
  have hb0 := below_box w (.cells #[.int .i64 regs, .slice a l.length c] 24)
  obtain ⟨p0, p1, p2, p3⟩ := (Blk.new w 24 #[.int .i64 regs, .slice a l.length c]).c2
  have HU := hide (UnrollR regs a c l _ [] E (unrS_bad hc) hE (h.belowN hb0) hl)
  have e1 : (E == 0) = false := by rw [← hE]; simpa using hc
  have e2 : (E != 0) = true := by rw [← hE]; simpa using hc
  clear hE hc
  go_enter Tryz.func12, Tryz.ntmps12
  go_wp2_with (go_at_call 17; go_must ((with_reducible refine (HU.out).mono ?_); rintro e w1 ⟨a1, c1, rfl, hown1, hb1⟩))
  go_ret2
  exact ⟨none, 0, 0, [], rfl, rfl, Own.none _ _ _, PsAt.nil _ _ _, hb0.trans (hb1.mono hb0.size)⟩
set_option maxRecDepth 100000 in
set_option maxHeartbeats 6400000 in
theorem Polys_good (nr : Nat) (a : Option Addr) (c n : Nat) (f : Fo) (hn : n = f.flat.length) (g : Good (nr : Int) f) (w : World) (h : At w a f.flat) (EE : Int) (RR : List (List Tm)) (hR : runS (nr : Int) f.unroll (startP nr) = (EE, RR)) :
    Calls Tryz.prog 12 #[.agg #[.int .i64 (nr : Int), .slice a n c]] w (PolysOut (nr : Int) RR EE w) := by
  have hl : f.flat.length ≤ 4096 := g.len
  have h1 : 1 ≤ nr := by have := g.r1; omega
  have h64 : nr ≤ 64 := by have := g.r2; omega
  have hb0 := below_box w (.cells #[.int .i64 (nr : Int), .slice a n c] 24)
  have hX := Blk.new w 24 #[.int .i64 (nr : Int), .slice a n c]
  obtain ⟨p0, p1, p2, p3⟩ := hX.c2
  have HU := hide (UnrollR (nr : Int) a c f.flat _ f.unroll 0 (unrS_good g) g.check (h.belowN hb0) (by omega))
  rw [← hn] at HU
  have HIN := hide (fun x hx => (⟨(f.unroll_mem g.ok x hx).2, g.inR x hx⟩ : (1 ≤ x.kind ∧ x.kind ≤ 6) ∧ InR (nr : Int) x))
  have hul := g.unroll_le
  obtain ⟨U, hU⟩ : ∃ U, f.unroll = U := ⟨_, rfl⟩
  rw [hU] at HU HIN hR hul
  have HR := hide hR
  clear hR g hn hl hU h
  go_enter Tryz.func12, Tryz.ntmps12
  go_wp2_with (go_at_call 17; go_must ((with_reducible refine (HU.out).mono ?_); rintro e w1 ⟨a1, c1, rfl, hown1, hb1⟩; obtain ⟨r0, r1, r2, r3⟩ := (hX.belowN hb1).c2))
  have hB1 := hb0.trans (hb1.mono hb0.size)
  have hX1 := hX.belowN hb1
  have hz1 := hB1.size
  go_loopw [6, 20] (fun rv iv wr => ∃ (k : Nat) (a3 : Option Addr) (c3 : Nat) (hs3 : List PoH), rv = .slice a3 k c3 ∧ iv = .int .i64 k ∧ k ≤ nr ∧ Own wr w1.heap.size 42 a3 c3 hs3 ∧ hs3.length = k ∧ PsAt (fun q => a3.map (·.block) ≠ some q) wr (nr : Int) hs3 ((startP nr).take k) ∧ Below w1.heap.size w1 wr) (fun _ iv _ => nr - (intOf iv).toNat)
  case atStart => exact ⟨0, none, 0, [], rfl, rfl, by omega, Own.none _ _ _, rfl, PsAt.nil _ _ _, Below.refl _ _⟩
  case round =>
    obtain ⟨k, a3, c3, hs3, rfl, rfl, hk, hown3, hl3, hP3, hb3⟩ := hrel
    have hz3 := hb3.size
    obtain ⟨q0, q1, q2, q3⟩ := (hX1.belowN hb3).c2
    by_cases hlt : k < nr
    · obtain ⟨v1, v2, v3, v4⟩ := var_facts h64 hlt
      obtain ⟨L, hL⟩ : ∃ L, varL (nr : Int) (k : Int) = L := ⟨_, rfl⟩
      have htk : (startP nr).take (k + 1) = (startP nr).take k ++ [L] := by rw [List.take_add_one, startP_get hlt, hL]; rfl
      have HPV := hide (PVar_calls (nr : Int) (k : Int) wr (nr : Int) L 0 v2 hL v1)
      have HKL := hide hl3.symm
      have HTK := hide htk
      have hP4 := hP3.bounded
      clear v1 v2 v3 v4 hL htk hl3 hP3
      obtain ⟨w3, rfl⟩ : ∃ w3 : World, w3 = wr := ⟨_, rfl⟩
      go_wp2_with (first
        | (at_builtin; go_must (have hgd := hT9; refine wpList_push tyPo hown10 ⟨(nr : Int), a9, n9, c9⟩ rfl rfl rfl rfl rfl (by simp) HKL.out hz10 (by omega) ?_; intro a4 c4 w4 hown6 hg6 hcs6))
        | (go_at_call 41; go_must ((with_reducible refine (HPV.out).mono ?_); rintro vv w9 ⟨a9, n9, c9, rfl, hT9, hb9⟩; have hb10 := hb9.trans ((below_box w9 (.cells #[.int .i64 (nr : Int), .slice a9 n9 c9] 42)).mono hb9.size); have hown10 := hown3.belowN hb10; have hz10 : w1.heap.size ≤ (w9.alloc (.cells #[.int .i64 (nr : Int), .slice a9 n9 c9] 42)).heap.size := (by have := hb10.size; omega); have hN10 := Blk.new w9 42 #[.int .i64 (nr : Int), .slice a9 n9 c9]; obtain ⟨n0, n1, n2, n3⟩ := hN10.c2)))
      have hb12 := below_push (hb3.trans (hb10.mono hz3)) hown10 hg6 hz10
      have hP6 := ((hP4.belowN hb10).grown hg6 (fun q hq h => h.1 hq)).imp (Q := fun q => a4.map (·.block) ≠ some q) (fun q hq => ne_push hcs6 hq.1 (by have := hb10.size; omega))
      have hT10 := ((hT9.bounded.belowN (below_box w9 (.cells #[.int .i64 (nr : Int), .slice a9 n9 c9] 42))).grown hg6 (fun q hq h => by have := (hown3.blk q hq).2; omega)).imp (Q := fun q => a4.map (·.block) ≠ some q) (fun q hq => ne_push hcs6 (fun e => by have := (hown3.blk q e).2; omega) (by rw [World.size_alloc]; omega))
      go_roundw
      case rel => exact ⟨k + 1, a4, c4, hs3 ++ [⟨(nr : Int), a9, n9, c9⟩], by go_num, by go_num, by omega, hown6, by simp [← HKL.out], by rw [HTK.out]; exact hP6.push rfl hT10, hb12⟩
      case measure => simp [intOf] <;> omega
    · have hkn : k = nr := by omega
      subst hkn
      rw [show (startP k).take k = startP k from List.take_of_length_le (by rw [startP_len]; omega)] at hP3
      have HRUN := hide (RunSym_calls (k : Int) a1 U.length c1 U rfl a3 k c3 hs3 (startP k) hl3.symm h1 wr (hown1.at_.belowN hb3) hown3.at_ (hP3.bounded.imp (fun q hq => hq.2)) (startP_all h64) HIN.out (by omega) (by omega) EE RR HR.out)
      clear hP3 hl3
      go_wp2_with (go_at_call 42; go_must ((with_reducible refine (HRUN.out).mono ?_); rintro vv w9 ⟨a9, n9, c9, hs9, rfl, hn9, hown9, hP9, hb9⟩; have HN9 := hide hn9; clear hn9))
      go_ret2
      have hB3 := hB1.trans (hb3.mono hz1)
      exact ⟨a9, n9, c9, hs9, rfl, HN9.out, hown9.mono hB3.size, hP9, hB3.trans (hb9.mono hB3.size)⟩
theorem Polys_calls (regs : Int) (a : Option Addr) (c : Nat) (l : List OpD) (w : World) (h : At w a l) (hl : l.length ≤ 1000000) (EE : Int) (RR : List (List Tm)) (hR : polysS regs l = (EE, RR)) :
    Calls Tryz.prog 12 #[.agg #[.int .i64 regs, .slice a l.length c]] w (PolysOut regs RR EE w) := by
  unfold polysS at hR
  by_cases hc : checkS regs l = 0
  · rw [if_pos hc] at hR
    obtain ⟨f, rfl, g⟩ := good_of_check hc
    obtain ⟨nr, rfl⟩ : ∃ n : Nat, regs = n := ⟨regs.toNat, by have := g.r1; omega⟩
    rw [Int.toNat_natCast, unrS_good g] at hR
    exact Polys_good nr a c _ f rfl g w h EE RR hR
  · rw [if_neg hc] at hR
    simp only [Prod.mk.injEq] at hR
    rw [← hR.2]
    exact Polys_bad regs a c l w h hl hc EE hR.1
set_option maxRecDepth 100000 in
set_option maxHeartbeats 6400000 in
theorem Polys15_bad (regs : Int) (a : Option Addr) (c : Nat) (l : List OpD) (w : World) (h : At w a l) (hl : l.length ≤ 1000000) (hc : checkS regs l ≠ 0) (E : Int) (hE : checkS regs l = E) :
    Calls Tryz.prog 13 #[.agg #[.int .i64 regs, .slice a l.length c]] w (PolysOut regs [] E w) := by
  have hb0 := below_box w (.cells #[.int .i64 regs, .slice a l.length c] 24)
  obtain ⟨p0, p1, p2, p3⟩ := (Blk.new w 24 #[.int .i64 regs, .slice a l.length c]).c2
  have HU := hide (Unroll12R regs a c l _ [] E (unrS_bad hc) hE (h.belowN hb0) hl)
  have e1 : (E == 0) = false := by rw [← hE]; simpa using hc
  have e2 : (E != 0) = true := by rw [← hE]; simpa using hc
  clear hE hc
  go_enter Tryz.func13, Tryz.ntmps13
  go_wp2_with (go_at_call 43; go_must ((with_reducible refine (HU.out).mono ?_); rintro e w1 ⟨a1, c1, rfl, hown1, hb1⟩))
  go_ret2
  exact ⟨none, 0, 0, [], rfl, rfl, Own.none _ _ _, PsAt.nil _ _ _, hb0.trans (hb1.mono hb0.size)⟩
set_option maxRecDepth 100000 in
set_option maxHeartbeats 6400000 in
theorem Polys15_good (nr : Nat) (a : Option Addr) (c n : Nat) (f : Fo) (hn : n = f.flat.length) (g : Good (nr : Int) f) (w : World) (h : At w a f.flat) (EE : Int) (RR : List (List Tm)) (hR : runS (nr : Int) f.unroll (startP nr) = (EE, RR)) :
    Calls Tryz.prog 13 #[.agg #[.int .i64 (nr : Int), .slice a n c]] w (PolysOut (nr : Int) RR EE w) := by
  have hl : f.flat.length ≤ 4096 := g.len
  have h1 : 1 ≤ nr := by have := g.r1; omega
  have h64 : nr ≤ 64 := by have := g.r2; omega
  have hb0 := below_box w (.cells #[.int .i64 (nr : Int), .slice a n c] 24)
  have hX := Blk.new w 24 #[.int .i64 (nr : Int), .slice a n c]
  obtain ⟨p0, p1, p2, p3⟩ := hX.c2
  have HU := hide (Unroll12R (nr : Int) a c f.flat _ f.unroll 0 (unrS_good g) g.check (h.belowN hb0) (by omega))
  rw [← hn] at HU
  have HIN := hide (fun x hx => (⟨(f.unroll_mem g.ok x hx).2, g.inR x hx⟩ : (1 ≤ x.kind ∧ x.kind ≤ 6) ∧ InR (nr : Int) x))
  have hul := g.unroll_le
  obtain ⟨U, hU⟩ : ∃ U, f.unroll = U := ⟨_, rfl⟩
  rw [hU] at HU HIN hR hul
  have HR := hide hR
  clear hR g hn hl hU h
  go_enter Tryz.func13, Tryz.ntmps13
  go_wp2_with (go_at_call 43; go_must ((with_reducible refine (HU.out).mono ?_); rintro e w1 ⟨a1, c1, rfl, hown1, hb1⟩; obtain ⟨r0, r1, r2, r3⟩ := (hX.belowN hb1).c2))
  have hB1 := hb0.trans (hb1.mono hb0.size)
  have hX1 := hX.belowN hb1
  have hz1 := hB1.size
  go_loopw [6, 7] (fun rv iv wr => ∃ (k : Nat) (a3 : Option Addr) (c3 : Nat) (hs3 : List PoH), rv = .slice a3 k c3 ∧ iv = .int .i64 k ∧ k ≤ nr ∧ Own wr w1.heap.size 42 a3 c3 hs3 ∧ hs3.length = k ∧ PsAt (fun q => a3.map (·.block) ≠ some q) wr (nr : Int) hs3 ((startP nr).take k) ∧ Below w1.heap.size w1 wr) (fun _ iv _ => nr - (intOf iv).toNat)
  case atStart => exact ⟨0, some ⟨w1.heap.size, 0, none⟩, 0, [], rfl, rfl, by omega, Own.new w1 (Nat.le_refl _) 42 PoH, rfl, PsAt.nil _ _ _, below_box w1 _⟩
  case round =>
    obtain ⟨k, a3, c3, hs3, rfl, rfl, hk, hown3, hl3, hP3, hb3⟩ := hrel
    have hz3 := hb3.size
    obtain ⟨q0, q1, q2, q3⟩ := (hX1.belowN hb3).c2
    by_cases hlt : k < nr
    · obtain ⟨v1, v2, v3, v4⟩ := var_facts h64 hlt
      obtain ⟨L, hL⟩ : ∃ L, varL (nr : Int) (k : Int) = L := ⟨_, rfl⟩
      have htk : (startP nr).take (k + 1) = (startP nr).take k ++ [L] := by rw [List.take_add_one, startP_get hlt, hL]; rfl
      have HPV := hide (RVar_calls (nr : Int) (k : Int) wr (nr : Int) L 0 v2 hL v1)
      have HKL := hide hl3.symm
      have HTK := hide htk
      have hP4 := hP3.bounded
      clear v1 v2 v3 v4 hL htk hl3 hP3
      obtain ⟨w3, rfl⟩ : ∃ w3 : World, w3 = wr := ⟨_, rfl⟩
      go_wp2_with (first
        | (at_builtin; go_must (have hgd := hT9; refine wpList_push tyPo hown10 ⟨(nr : Int), a9, n9, c9⟩ rfl rfl rfl rfl rfl (by simp) HKL.out hz10 (by omega) ?_; intro a4 c4 w4 hown6 hg6 hcs6))
        | (go_at_call 44; go_must ((with_reducible refine (HPV.out).mono ?_); rintro vv w9 ⟨a9, n9, c9, rfl, hT9, hb9⟩; have hb10 := hb9.trans ((below_box w9 (.cells #[.int .i64 (nr : Int), .slice a9 n9 c9] 42)).mono hb9.size); have hown10 := hown3.belowN hb10; have hz10 : w1.heap.size ≤ (w9.alloc (.cells #[.int .i64 (nr : Int), .slice a9 n9 c9] 42)).heap.size := (by have := hb10.size; omega); have hN10 := Blk.new w9 42 #[.int .i64 (nr : Int), .slice a9 n9 c9]; obtain ⟨n0, n1, n2, n3⟩ := hN10.c2)))
      have hb12 := below_push (hb3.trans (hb10.mono hz3)) hown10 hg6 hz10
      have hP6 := ((hP4.belowN hb10).grown hg6 (fun q hq h => h.1 hq)).imp (Q := fun q => a4.map (·.block) ≠ some q) (fun q hq => ne_push hcs6 hq.1 (by have := hb10.size; omega))
      have hT10 := ((hT9.bounded.belowN (below_box w9 (.cells #[.int .i64 (nr : Int), .slice a9 n9 c9] 42))).grown hg6 (fun q hq h => by have := (hown3.blk q hq).2; omega)).imp (Q := fun q => a4.map (·.block) ≠ some q) (fun q hq => ne_push hcs6 (fun e => by have := (hown3.blk q e).2; omega) (by rw [World.size_alloc]; omega))
      go_roundw
      case rel => exact ⟨k + 1, a4, c4, hs3 ++ [⟨(nr : Int), a9, n9, c9⟩], by go_num, by go_num, by omega, hown6, by simp [← HKL.out], by rw [HTK.out]; exact hP6.push rfl hT10, hb12⟩
      case measure => simp [intOf] <;> omega
    · have hkn : k = nr := by omega
      subst hkn
      rw [show (startP k).take k = startP k from List.take_of_length_le (by rw [startP_len]; omega)] at hP3
      have HRUN := hide (Run15_calls (k : Int) a1 U.length c1 U rfl a3 k c3 hs3 (startP k) hl3.symm h1 wr (hown1.at_.belowN hb3) hown3.at_ (hP3.bounded.imp (fun q hq => hq.2)) (startP_all h64) HIN.out (by omega) (by omega) EE RR HR.out)
      clear hP3 hl3
      go_wp2_with (go_at_call 45; go_must ((with_reducible refine (HRUN.out).mono ?_); rintro vv w9 ⟨a9, n9, c9, hs9, rfl, hn9, hown9, hP9, hb9⟩; have HN9 := hide hn9; clear hn9))
      go_ret2
      have hB3 := hB1.trans (hb3.mono hz1)
      exact ⟨a9, n9, c9, hs9, rfl, HN9.out, hown9.mono hB3.size, hP9, hB3.trans (hb9.mono hB3.size)⟩
theorem Polys15_calls (regs : Int) (a : Option Addr) (c : Nat) (l : List OpD) (w : World) (h : At w a l) (hl : l.length ≤ 1000000) (EE : Int) (RR : List (List Tm)) (hR : polysS regs l = (EE, RR)) :
    Calls Tryz.prog 13 #[.agg #[.int .i64 regs, .slice a l.length c]] w (PolysOut regs RR EE w) := by
  unfold polysS at hR
  by_cases hc : checkS regs l = 0
  · rw [if_pos hc] at hR
    obtain ⟨f, rfl, g⟩ := good_of_check hc
    obtain ⟨nr, rfl⟩ : ∃ n : Nat, regs = n := ⟨regs.toNat, by have := g.r1; omega⟩
    rw [Int.toNat_natCast, unrS_good g] at hR
    exact Polys15_good nr a c _ f rfl g w h EE RR hR
  · rw [if_neg hc] at hR
    simp only [Prod.mk.injEq] at hR
    rw [← hR.2]
    exact Polys15_bad regs a c l w h hl hc EE hR.1
end Go.Proofs.YtcamcnahkdiefaaGreat

/- symbol.Gradient and the document's answer; two lists of polynomials that are alike. -/
namespace Go.Proofs.YtcamcnahkdiefaaGreat
set_option linter.unusedVariables false
set_option linter.unusedSimpArgs false
open Go.RowKit
/-- derivatives by the first so many -/
def derivs (A : List Tm) (n : Nat) : List (List Tm) := (List.range n).map fun i => sortT (drvT i A)
theorem derivs_succ (A : List Tm) (n : Nat) : derivs A (n + 1) = derivs A n ++ [sortT (drvT n A)] := by unfold derivs; rw [List.range_succ, List.map_append]; rfl
theorem derivs_len (A : List Tm) (n : Nat) : (derivs A n).length = n := by unfold derivs; simp
set_option maxRecDepth 100000 in
set_option maxHeartbeats 6400000 in
theorem Gradient_calls (regs : Int) (a : Option Addr) (c : Nat) (l : List OpD) (w : World) (h : At w a l) (hl : l.length ≤ 1000000) (k : Int) (EE : Int) (RR : List (List Tm)) (hR : gradS regs l k = (EE, RR)) :
    Calls Tryz.prog 14 #[.agg #[.int .i64 regs, .slice a l.length c], .int .i64 k] w (PolysOut regs RR EE w) := by
  obtain ⟨E, hE⟩ : ∃ E, (polysS regs l).1 = E := ⟨_, rfl⟩
  obtain ⟨R, hRR⟩ : ∃ R, (polysS regs l).2 = R := ⟨_, rfl⟩
  have hp : polysS regs l = (E, R) := by rw [← hE, ← hRR]
  unfold gradS at hR
  rw [hE, hRR] at hR
  have hb0 := below_box w (.cells #[.int .i64 regs, .slice a l.length c] 24)
  have hX := Blk.new w 24 #[.int .i64 regs, .slice a l.length c]
  obtain ⟨p0, p1, p2, p3⟩ := hX.c2
  have HP := hide (Polys_calls regs a c l _ (h.belowN hb0) hl E R hp)
  obtain ⟨ln, hln⟩ : ∃ n, l.length = n := ⟨_, rfl⟩
  rw [hln] at HP p0 p1 p2 p3 hb0 hX hl ⊢
  have HLEN := hide (polysS_len hp)
  have HALL := hide (polysS_all hp)
  by_cases hE0 : E ≠ 0
  · rw [if_pos hE0] at hR
    simp only [Prod.mk.injEq] at hR
    obtain ⟨rfl, rfl⟩ := hR
    have e1 : (E == 0) = false := by simpa using hE0
    have e2 : (E != 0) = true := by simpa using hE0
    clear hE0 hE hRR hp h hln
    go_enter Tryz.func14, Tryz.ntmps14
    go_wp2_with (go_at_call 12; go_must ((with_reducible refine (HP.out).mono ?_); rintro e w1 ⟨a1, n1, c1, hs1, rfl, hn1, hown1, hP1, hb1⟩; clear hn1))
    go_ret2
    exact ⟨none, 0, 0, [], rfl, rfl, Own.none _ _ _, PsAt.nil _ _ _, hb0.trans (hb1.mono hb0.size)⟩
  · have hE1 : E = 0 := Decidable.not_not.1 hE0
    subst hE1
    rw [if_neg hE0] at hR
    by_cases hk : k < 0 ∨ ((R.length : Nat) : Int) ≤ k
    · rw [if_pos hk] at hR
      simp only [Prod.mk.injEq] at hR
      obtain ⟨rfl, rfl⟩ := hR
      obtain ⟨rn, hrn⟩ : ∃ n, R.length = n := ⟨_, rfl⟩
      have HRN := hide hrn
      rw [hrn] at hk
      clear hE0 hE hRR hp h hln hrn
      by_cases h0 : k < 0
      · go_enter Tryz.func14, Tryz.ntmps14
        go_wp2_with (go_at_call 12; go_must ((with_reducible refine (HP.out).mono ?_); rintro e w1 ⟨a1, n1, c1, hs1, rfl, hn1, hown1, hP1, hb1⟩; rw [HRN.out] at hn1; subst hn1))
        go_ret2
        exact ⟨none, 0, 0, [], rfl, rfl, Own.none _ _ _, PsAt.nil _ _ _, hb0.trans (hb1.mono hb0.size)⟩
      · have hk1 : (rn : Int) ≤ k := by omega
        go_enter Tryz.func14, Tryz.ntmps14
        go_wp2_with (go_at_call 12; go_must ((with_reducible refine (HP.out).mono ?_); rintro e w1 ⟨a1, n1, c1, hs1, rfl, hn1, hown1, hP1, hb1⟩; rw [HRN.out] at hn1; subst hn1))
        go_ret2
        exact ⟨none, 0, 0, [], rfl, rfl, Own.none _ _ _, PsAt.nil _ _ _, hb0.trans (hb1.mono hb0.size)⟩
    · rw [if_neg hk] at hR
      obtain ⟨kn, rfl⟩ : ∃ n : Nat, k = n := ⟨k.toNat, by omega⟩
      rw [Int.toNat_natCast] at hR
      obtain ⟨rn, hrn⟩ : ∃ n, R.length = n := ⟨_, rfl⟩
      have hkr : kn < rn := by omega
      have hreg : (rn : Int) ≤ regs := by have := (HLEN.out).1 rfl; omega
      obtain ⟨A, hA⟩ : ∃ A, R.getD kn [] = A := ⟨_, rfl⟩
      have hcA := HALL.out.get (k := kn) (by omega)
      have h64 : regs ≤ 64 := by have := (checkP_ok hcA).v; have := (checkP_ok hcA).n64; omega
      rw [hA] at hcA
      rw [hrn, hA] at hR
      have hR2 : (0, derivs A rn) = (EE, RR) := hR
      simp only [Prod.mk.injEq] at hR2
      obtain ⟨rfl, rfl⟩ := hR2
      have HRN := hide hrn
      have HA := hide hA
      obtain ⟨f1, f2⟩ := checkP_len hcA
      have d1 : decide ((kn : Int) < 0) = false := decide_eq_false (by omega)
      have d2 : decide (rn ≤ kn) = false := decide_eq_false (by omega)
      have d3 : decide ((rn : Int) ≤ (kn : Int)) = false := decide_eq_false (by omega)
      clear hE0 hE hRR hp h hln hrn hk hR hA
      go_enter Tryz.func14, Tryz.ntmps14
      go_wp2_with (go_at_call 12; go_must ((with_reducible refine (HP.out).mono ?_); rintro e w1 ⟨a1, n1, c1, hs1, rfl, hn1, hown1, hP1, hb1⟩; rw [HRN.out] at hn1; subst hn1))
      have hB1 := hb0.trans (hb1.mono hb0.size)
      have hz1 := hB1.size
      have hl1 : hs1.length = n1 := by rw [hP1.1, HRN.out]
      obtain ⟨x, hx⟩ : ∃ y, hs1[kn]? = some y := ⟨hs1[kn]'(by omega), List.getElem?_eq_getElem _⟩
      obtain ⟨hv, hTx⟩ := hP1.get hx
      rw [HA.out] at hTx
      have HX1 := hide hx
      clear hl1 hx
      go_loopw [8, 32] (fun rv iv wr => ∃ (k : Nat) (a3 : Option Addr) (c3 : Nat) (hs3 : List PoH), rv = .slice a3 k c3 ∧ iv = .int .i64 k ∧ k ≤ n1 ∧ Own wr w1.heap.size 42 a3 c3 hs3 ∧ hs3.length = k ∧ PsAt (fun q => a3.map (·.block) ≠ some q) wr regs hs3 (derivs A k) ∧ Below w1.heap.size w1 wr) (fun _ iv _ => n1 - (intOf iv).toNat)
      case atStart => exact ⟨0, none, 0, [], rfl, rfl, by omega, Own.none _ _ _, rfl, PsAt.nil _ _ _, Below.refl _ _⟩
      case round =>
        obtain ⟨k, a3, c3, hs3, rfl, rfl, hk, hown3, hl3, hP3, hb3⟩ := hrel
        have hz3 := hb3.size
        by_cases hlt : k < n1
        · obtain ⟨v1, v2, v3, v4, v5⟩ := drv_facts hcA (j := k) (by omega)
          obtain ⟨b1, off1, y, rfl, hy, y0, y1⟩ := (hown1.at_.belowN hb3).getPo (Below.refl _ _) (k := kn) (List.getElem?_eq_some_iff.1 HX1.out).1
          obtain rfl : y = x := Option.some.inj (hy.out.symm.trans HX1.out)
          rw [hv] at y0
          obtain ⟨L, hL⟩ : ∃ L, sortT (drvT k A) = L := ⟨_, rfl⟩
          rw [hL] at v4
          have htk : derivs A (k + 1) = derivs A k ++ [L] := by rw [derivs_succ, hL]
          have HPV := hide (PDrv_calls (fun _ => True) regs (k : Int) y.a y.n y.c A wr (hTx.belowN hb3) (by rw [hTx.len]; exact f1) f2 regs L 0 v3 v4 v2)
          have HKL := hide hl3.symm
          have HTK := hide htk
          have hP4 := hP3.bounded
          clear v1 v2 v3 v4 v5 hL htk hl3 hP3 hy
          obtain ⟨w3, rfl⟩ : ∃ w3 : World, w3 = wr := ⟨_, rfl⟩
          go_wp2_with (first
            | (at_builtin; go_must (have hgd := hT9; refine wpList_push tyPo hown10 ⟨regs, a9, n9, c9⟩ rfl rfl rfl rfl rfl (by simp) HKL.out hz10 (by omega) ?_; intro a4 c4 w4 hown6 hg6 hcs6))
            | (go_at_call 35; go_must ((with_reducible refine (HPV.out).mono ?_); rintro vv w9 ⟨a9, n9, c9, rfl, hT9, hb9⟩; have hb10 := hb9.trans ((below_box w9 (.cells #[.int .i64 regs, .slice a9 n9 c9] 42)).mono hb9.size); have hown10 := hown3.belowN hb10; have hz10 : w1.heap.size ≤ (w9.alloc (.cells #[.int .i64 regs, .slice a9 n9 c9] 42)).heap.size := (by have := hb10.size; omega); have hN10 := Blk.new w9 42 #[.int .i64 regs, .slice a9 n9 c9]; obtain ⟨m0, m1, m2, m3⟩ := hN10.c2)))
          have hb12 := below_push (hb3.trans (hb10.mono hz3)) hown10 hg6 hz10
          have hP6 := ((hP4.belowN hb10).grown hg6 (fun q hq h => h.1 hq)).imp (Q := fun q => a4.map (·.block) ≠ some q) (fun q hq => ne_push hcs6 hq.1 (by have := hb10.size; omega))
          have hT10 := ((hT9.bounded.belowN (below_box w9 (.cells #[.int .i64 regs, .slice a9 n9 c9] 42))).grown hg6 (fun q hq h => by have := (hown3.blk q hq).2; omega)).imp (Q := fun q => a4.map (·.block) ≠ some q) (fun q hq => ne_push hcs6 (fun e => by have := (hown3.blk q e).2; omega) (by rw [World.size_alloc]; omega))
          go_roundw
          case rel => exact ⟨k + 1, a4, c4, hs3 ++ [⟨regs, a9, n9, c9⟩], by go_num, by go_num, by omega, hown6, by simp [← HKL.out], by rw [HTK.out]; exact hP6.push rfl hT10, hb12⟩
          case measure => simp [intOf] <;> omega
        · have hkn : k = n1 := by omega
          subst hkn
          go_wp2
          go_ret2
          exact ⟨a3, k, c3, hs3, rfl, (derivs_len _ _).symm, hown3.mono hz1, hP3.imp fun _ _ => trivial, hB1.trans (hb3.mono hz1)⟩
set_option maxRecDepth 100000 in
set_option maxHeartbeats 6400000 in
theorem Gradient15_calls (regs : Int) (a : Option Addr) (c : Nat) (l : List OpD) (w : World) (h : At w a l) (hl : l.length ≤ 1000000) (k : Int) (EE : Int) (RR : List (List Tm)) (hR : gradS regs l k = (EE, RR)) :
    Calls Tryz.prog 15 #[.agg #[.int .i64 regs, .slice a l.length c], .int .i64 k] w (PolysOut regs RR EE w) := by
  obtain ⟨E, hE⟩ : ∃ E, (polysS regs l).1 = E := ⟨_, rfl⟩
  obtain ⟨R, hRR⟩ : ∃ R, (polysS regs l).2 = R := ⟨_, rfl⟩
  have hp : polysS regs l = (E, R) := by rw [← hE, ← hRR]
  unfold gradS at hR
  rw [hE, hRR] at hR
  have hb0 := below_box w (.cells #[.int .i64 regs, .slice a l.length c] 24)
  have hX := Blk.new w 24 #[.int .i64 regs, .slice a l.length c]
  obtain ⟨p0, p1, p2, p3⟩ := hX.c2
  have HP := hide (Polys15_calls regs a c l _ (h.belowN hb0) hl E R hp)
  obtain ⟨ln, hln⟩ : ∃ n, l.length = n := ⟨_, rfl⟩
  rw [hln] at HP p0 p1 p2 p3 hb0 hX hl ⊢
  have HLEN := hide (polysS_len hp)
  have HALL := hide (polysS_all hp)
  by_cases hE0 : E ≠ 0
  · rw [if_pos hE0] at hR
    simp only [Prod.mk.injEq] at hR
    obtain ⟨rfl, rfl⟩ := hR
    have e1 : (E == 0) = false := by simpa using hE0
    have e2 : (E != 0) = true := by simpa using hE0
    clear hE0 hE hRR hp h hln
    go_enter Tryz.func15, Tryz.ntmps15
    go_wp2_with (go_at_call 13; go_must ((with_reducible refine (HP.out).mono ?_); rintro e w1 ⟨a1, n1, c1, hs1, rfl, hn1, hown1, hP1, hb1⟩; clear hn1))
    go_ret2
    exact ⟨none, 0, 0, [], rfl, rfl, Own.none _ _ _, PsAt.nil _ _ _, hb0.trans (hb1.mono hb0.size)⟩
  · have hE1 : E = 0 := Decidable.not_not.1 hE0
    subst hE1
    rw [if_neg hE0] at hR
    by_cases hk : k < 0 ∨ ((R.length : Nat) : Int) ≤ k
    · rw [if_pos hk] at hR
      simp only [Prod.mk.injEq] at hR
      obtain ⟨rfl, rfl⟩ := hR
      obtain ⟨rn, hrn⟩ : ∃ n, R.length = n := ⟨_, rfl⟩
      have HRN := hide hrn
      rw [hrn] at hk
      clear hE0 hE hRR hp h hln hrn
      by_cases h0 : k < 0
      · go_enter Tryz.func15, Tryz.ntmps15
        go_wp2_with (go_at_call 13; go_must ((with_reducible refine (HP.out).mono ?_); rintro e w1 ⟨a1, n1, c1, hs1, rfl, hn1, hown1, hP1, hb1⟩; rw [HRN.out] at hn1; subst hn1))
        go_ret2
        exact ⟨none, 0, 0, [], rfl, rfl, Own.none _ _ _, PsAt.nil _ _ _, hb0.trans (hb1.mono hb0.size)⟩
      · have hk1 : (rn : Int) ≤ k := by omega
        go_enter Tryz.func15, Tryz.ntmps15
        go_wp2_with (go_at_call 13; go_must ((with_reducible refine (HP.out).mono ?_); rintro e w1 ⟨a1, n1, c1, hs1, rfl, hn1, hown1, hP1, hb1⟩; rw [HRN.out] at hn1; subst hn1))
        go_ret2
        exact ⟨none, 0, 0, [], rfl, rfl, Own.none _ _ _, PsAt.nil _ _ _, hb0.trans (hb1.mono hb0.size)⟩
    · rw [if_neg hk] at hR
      obtain ⟨kn, rfl⟩ : ∃ n : Nat, k = n := ⟨k.toNat, by omega⟩
      rw [Int.toNat_natCast] at hR
      obtain ⟨rn, hrn⟩ : ∃ n, R.length = n := ⟨_, rfl⟩
      have hkr : kn < rn := by omega
      have hreg : (rn : Int) ≤ regs := by have := (HLEN.out).1 rfl; omega
      obtain ⟨A, hA⟩ : ∃ A, R.getD kn [] = A := ⟨_, rfl⟩
      have hcA := HALL.out.get (k := kn) (by omega)
      have h64 : regs ≤ 64 := by have := (checkP_ok hcA).v; have := (checkP_ok hcA).n64; omega
      rw [hA] at hcA
      rw [hrn, hA] at hR
      have hR2 : (0, derivs A rn) = (EE, RR) := hR
      simp only [Prod.mk.injEq] at hR2
      obtain ⟨rfl, rfl⟩ := hR2
      have HRN := hide hrn
      have HA := hide hA
      obtain ⟨f1, f2⟩ := checkP_len hcA
      have d1 : decide ((kn : Int) < 0) = false := decide_eq_false (by omega)
      have d2 : decide (rn ≤ kn) = false := decide_eq_false (by omega)
      have d3 : decide ((rn : Int) ≤ (kn : Int)) = false := decide_eq_false (by omega)
      clear hE0 hE hRR hp h hln hrn hk hR hA
      go_enter Tryz.func15, Tryz.ntmps15
      go_wp2_with (go_at_call 13; go_must ((with_reducible refine (HP.out).mono ?_); rintro e w1 ⟨a1, n1, c1, hs1, rfl, hn1, hown1, hP1, hb1⟩; rw [HRN.out] at hn1; subst hn1))
      have hB1 := hb0.trans (hb1.mono hb0.size)
      have hz1 := hB1.size
      have hl1 : hs1.length = n1 := by rw [hP1.1, HRN.out]
      obtain ⟨x, hx⟩ : ∃ y, hs1[kn]? = some y := ⟨hs1[kn]'(by omega), List.getElem?_eq_getElem _⟩
      obtain ⟨hv, hTx⟩ := hP1.get hx
      rw [HA.out] at hTx
      have HX1 := hide hx
      clear hl1 hx
      go_loopw [8, 9] (fun rv iv wr => ∃ (k : Nat) (a3 : Option Addr) (c3 : Nat) (hs3 : List PoH), rv = .slice a3 k c3 ∧ iv = .int .i64 k ∧ k ≤ n1 ∧ Own wr w1.heap.size 42 a3 c3 hs3 ∧ hs3.length = k ∧ PsAt (fun q => a3.map (·.block) ≠ some q) wr regs hs3 (derivs A k) ∧ Below w1.heap.size w1 wr) (fun _ iv _ => n1 - (intOf iv).toNat)
      case atStart => exact ⟨0, some ⟨w1.heap.size, 0, none⟩, 0, [], rfl, rfl, by omega, Own.new w1 (Nat.le_refl _) 42 PoH, rfl, PsAt.nil _ _ _, below_box w1 _⟩
      case round =>
        obtain ⟨k, a3, c3, hs3, rfl, rfl, hk, hown3, hl3, hP3, hb3⟩ := hrel
        have hz3 := hb3.size
        by_cases hlt : k < n1
        · obtain ⟨v1, v2, v3, v4, v5⟩ := drv_facts hcA (j := k) (by omega)
          obtain ⟨b1, off1, y, rfl, hy, y0, y1⟩ := (hown1.at_.belowN hb3).getPo (Below.refl _ _) (k := kn) (List.getElem?_eq_some_iff.1 HX1.out).1
          obtain rfl : y = x := Option.some.inj (hy.out.symm.trans HX1.out)
          rw [hv] at y0
          obtain ⟨L, hL⟩ : ∃ L, sortT (drvT k A) = L := ⟨_, rfl⟩
          rw [hL] at v4
          have htk : derivs A (k + 1) = derivs A k ++ [L] := by rw [derivs_succ, hL]
          have HPV := hide (RDrv_calls (fun _ => True) regs (k : Int) y.a y.n y.c A wr (hTx.belowN hb3) (by rw [hTx.len]; exact f1) f2 regs L 0 v3 v4 v2)
          have HKL := hide hl3.symm
          have HTK := hide htk
          have hP4 := hP3.bounded
          clear v1 v2 v3 v4 v5 hL htk hl3 hP3 hy
          obtain ⟨w3, rfl⟩ : ∃ w3 : World, w3 = wr := ⟨_, rfl⟩
          go_wp2_with (first
            | (at_builtin; go_must (have hgd := hT9; refine wpList_push tyPo hown10 ⟨regs, a9, n9, c9⟩ rfl rfl rfl rfl rfl (by simp) HKL.out hz10 (by omega) ?_; intro a4 c4 w4 hown6 hg6 hcs6))
            | (go_at_call 46; go_must ((with_reducible refine (HPV.out).mono ?_); rintro vv w9 ⟨a9, n9, c9, rfl, hT9, hb9⟩; have hb10 := hb9.trans ((below_box w9 (.cells #[.int .i64 regs, .slice a9 n9 c9] 42)).mono hb9.size); have hown10 := hown3.belowN hb10; have hz10 : w1.heap.size ≤ (w9.alloc (.cells #[.int .i64 regs, .slice a9 n9 c9] 42)).heap.size := (by have := hb10.size; omega); have hN10 := Blk.new w9 42 #[.int .i64 regs, .slice a9 n9 c9]; obtain ⟨m0, m1, m2, m3⟩ := hN10.c2)))
          have hb12 := below_push (hb3.trans (hb10.mono hz3)) hown10 hg6 hz10
          have hP6 := ((hP4.belowN hb10).grown hg6 (fun q hq h => h.1 hq)).imp (Q := fun q => a4.map (·.block) ≠ some q) (fun q hq => ne_push hcs6 hq.1 (by have := hb10.size; omega))
          have hT10 := ((hT9.bounded.belowN (below_box w9 (.cells #[.int .i64 regs, .slice a9 n9 c9] 42))).grown hg6 (fun q hq h => by have := (hown3.blk q hq).2; omega)).imp (Q := fun q => a4.map (·.block) ≠ some q) (fun q hq => ne_push hcs6 (fun e => by have := (hown3.blk q e).2; omega) (by rw [World.size_alloc]; omega))
          go_roundw
          case rel => exact ⟨k + 1, a4, c4, hs3 ++ [⟨regs, a9, n9, c9⟩], by go_num, by go_num, by omega, hown6, by simp [← HKL.out], by rw [HTK.out]; exact hP6.push rfl hT10, hb12⟩
          case measure => simp [intOf] <;> omega
        · have hkn : k = n1 := by omega
          subst hkn
          go_wp2
          go_ret2
          exact ⟨a3, k, c3, hs3, rfl, (derivs_len _ _).symm, hown3.mono hz1, hP3.imp fun _ _ => trivial, hB1.trans (hb3.mono hz1)⟩
end Go.Proofs.YtcamcnahkdiefaaGreat

/- symbol.After and the document's answer; two lists of polynomials that are alike. -/
namespace Go.Proofs.YtcamcnahkdiefaaGreat
set_option linter.unusedVariables false
set_option linter.unusedSimpArgs false
open Go.RowKit
/-- polynomials in memory, each of as many variables as it says -/
def PsV (P : Nat → Prop) (w : World) (hs : List PoH) (r : List (List Tm)) : Prop := hs.length = r.length ∧ ∀ (i : Nat) (h : PoH) (L : List Tm), hs[i]? = some h → r[i]? = some L → TOut P w h.a h.n h.c L ∧ h.n ≤ 1000000 ∧ ∀ t ∈ L, t.2.length ≤ 1000000
theorem PsV.belowN {P : Nat → Prop} {w w' : World} {hs : List PoH} {r : List (List Tm)} (h : PsV P w hs r) (hb : Below w.heap.size w w') : PsV P w' hs r := ⟨h.1, fun i y L e1 e2 => ⟨(h.2 i y L e1 e2).1.belowN hb, (h.2 i y L e1 e2).2⟩⟩
theorem PsAt.toV {P : Nat → Prop} {w : World} {va : Int} {hs : List PoH} {r : List (List Tm)} (h : PsAt P w va hs r) (hA : AllP va r) : PsV P w hs r := ⟨h.1, fun i y L e1 e2 => by
  obtain ⟨f1, f2⟩ := checkP_len (hA L (List.mem_of_getElem? e2))
  have hT := (h.2 i y L e1 e2).2
  exact ⟨hT, by rw [hT.len]; exact f1, f2⟩⟩
theorem okStart_drop {v0 : Int} {hs : List PoH} {r : List (List Tm)} {k : Nat} {y : PoH} {L : List Tm} (h1 : hs[k]? = some y) (h2 : r[k]? = some L) :
    okStart v0 ((hs.map (·.v)).drop k) (r.drop k) = (checkP y.v L && decide (y.v = v0) && okStart v0 ((hs.map (·.v)).drop (k + 1)) (r.drop (k + 1))) := by
  have h1' : (hs.map (·.v))[k]? = some y.v := by rw [List.getElem?_map, h1]; rfl
  rw [drop_at h1', drop_at h2, okStart]
theorem okStart_all {v0 : Int} : ∀ {hs : List PoH} {r : List (List Tm)}, okStart v0 (hs.map (·.v)) r = true → ∀ (i : Nat) (y : PoH) (L : List Tm), hs[i]? = some y → r[i]? = some L → y.v = v0 ∧ checkP v0 L = true
  | [], r, _, i, y, L, h1, _ => by simp at h1
  | x :: hs, [], _, i, y, L, _, h2 => by simp at h2
  | x :: hs, M :: r, h, i, y, L, h1, h2 => by
    rw [List.map_cons, okStart] at h
    simp only [Bool.and_eq_true, decide_eq_true_eq] at h
    obtain ⟨⟨a1, a2⟩, a3⟩ := h
    cases i with
    | zero =>
      simp at h1 h2
      subst h1 h2
      rw [a2] at a1
      exact ⟨a2, a1⟩
    | succ i =>
      simp at h1 h2
      exact okStart_all a3 i y L h1 h2
set_option maxRecDepth 100000 in
set_option maxHeartbeats 6400000 in
theorem After_bad (regs : Int) (a : Option Addr) (c : Nat) (l : List OpD) (sa : Option Addr) (sn sc : Nat) (w : World) (h : At w a l) (hl : l.length ≤ 1000000) (hc : checkS regs l ≠ 0) (E va : Int) (hE : checkS regs l = E) :
    Calls Tryz.prog 19 #[.agg #[.int .i64 regs, .slice a l.length c], .slice sa sn sc] w (PolysOut va [] E w) := by
  have hb0 := below_box w (.cells #[.int .i64 regs, .slice a l.length c] 24)
  obtain ⟨p0, p1, p2, p3⟩ := (Blk.new w 24 #[.int .i64 regs, .slice a l.length c]).c2
  have HU := hide (UnrollR regs a c l _ [] E (unrS_bad hc) hE (h.belowN hb0) hl)
  have e1 : (E == 0) = false := by rw [← hE]; simpa using hc
  have e2 : (E != 0) = true := by rw [← hE]; simpa using hc
  clear hE hc
  go_enter Tryz.func19, Tryz.ntmps19
  go_wp2_with (go_at_call 17; go_must ((with_reducible refine (HU.out).mono ?_); rintro e w1 ⟨a1, c1, rfl, hown1, hb1⟩))
  go_ret2
  exact ⟨none, 0, 0, [], rfl, rfl, Own.none _ _ _, PsAt.nil _ _ _, hb0.trans (hb1.mono hb0.size)⟩
set_option maxRecDepth 100000 in
set_option maxHeartbeats 6400000 in
theorem After_dims (nr : Nat) (a : Option Addr) (c n : Nat) (f : Fo) (hn : n = f.flat.length) (g : Good (nr : Int) f) (sa : Option Addr) (sn sc : Nat) (hsn : sn ≠ nr) (w : World) (h : At w a f.flat) (va : Int) :
    Calls Tryz.prog 19 #[.agg #[.int .i64 (nr : Int), .slice a n c], .slice sa sn sc] w (PolysOut va [] 10 w) := by
  have hl : f.flat.length ≤ 4096 := g.len
  have hb0 := below_box w (.cells #[.int .i64 (nr : Int), .slice a n c] 24)
  have hX := Blk.new w 24 #[.int .i64 (nr : Int), .slice a n c]
  obtain ⟨p0, p1, p2, p3⟩ := hX.c2
  have HU := hide (UnrollR (nr : Int) a c f.flat _ f.unroll 0 (unrS_good g) g.check (h.belowN hb0) (by omega))
  rw [← hn] at HU
  obtain ⟨U, hU⟩ : ∃ U, f.unroll = U := ⟨_, rfl⟩
  rw [hU] at HU
  have d1 : ((sn : Int) != (nr : Int)) = true := by simp; omega
  have d2 : ((sn : Int) == (nr : Int)) = false := by simp; omega
  clear g hn hl hU h hsn
  go_enter Tryz.func19, Tryz.ntmps19
  go_wp2_with (go_at_call 17; go_must ((with_reducible refine (HU.out).mono ?_); rintro e w1 ⟨a1, c1, rfl, hown1, hb1⟩; obtain ⟨r0, r1, r2, r3⟩ := (hX.belowN hb1).c2))
  go_ret2
  exact ⟨none, 0, 0, [], rfl, rfl, Own.none _ _ _, PsAt.nil _ _ _, hb0.trans (hb1.mono hb0.size)⟩
set_option maxRecDepth 100000 in
set_option maxHeartbeats 6400000 in
theorem After_good (nr : Nat) (a : Option Addr) (c n : Nat) (f : Fo) (hn : n = f.flat.length) (g : Good (nr : Int) f) (sa : Option Addr) (sc : Nat) (hs : List PoH) (r : List (List Tm)) (hsn : nr = hs.length) (w : World) (h : At w a f.flat) (hst : At w sa hs) (hP : PsV (fun q => q < w.heap.size) w hs r)
    (v0 : Int) (hv0 : (hs.map (·.v)).headD 0 = v0) (EE : Int) (RR : List (List Tm)) (hR : (if okStart v0 (hs.map (·.v)) r = false then (2, []) else runS v0 f.unroll r) = (EE, RR)) :
    Calls Tryz.prog 19 #[.agg #[.int .i64 (nr : Int), .slice a n c], .slice sa nr sc] w (PolysOut v0 RR EE w) := by
  have hl : f.flat.length ≤ 4096 := g.len
  have h1 : 1 ≤ nr := by have := g.r1; omega
  have h64 : nr ≤ 64 := by have := g.r2; omega
  have hb0 := below_box w (.cells #[.int .i64 (nr : Int), .slice a n c] 24)
  have hX := Blk.new w 24 #[.int .i64 (nr : Int), .slice a n c]
  obtain ⟨p0, p1, p2, p3⟩ := hX.c2
  have HU := hide (UnrollR (nr : Int) a c f.flat _ f.unroll 0 (unrS_good g) g.check (h.belowN hb0) (by omega))
  rw [← hn] at HU
  have HIN := hide (fun x hx => (⟨(f.unroll_mem g.ok x hx).2, g.inR x hx⟩ : (1 ≤ x.kind ∧ x.kind ≤ 6) ∧ InR (nr : Int) x))
  have hul := g.unroll_le
  obtain ⟨U, hU⟩ : ∃ U, f.unroll = U := ⟨_, rfl⟩
  rw [hU] at HU HIN hR hul
  obtain ⟨Bs, hBs⟩ : ∃ B, okStart v0 (hs.map (·.v)) r = B := ⟨_, rfl⟩
  rw [hBs] at hR
  have HR := hide hR
  have HSN := hide hsn
  have HP := hide hP
  have HBS := hide hBs
  have hlr : r.length = nr := by rw [← hP.1, hsn]
  obtain ⟨y0, hy0⟩ : ∃ y, hs[0]? = some y := ⟨hs[0]'(by omega), List.getElem?_eq_getElem _⟩
  have hyv : y0.v = v0 := by
    rw [← hv0]
    cases hs with
    | nil => simp at hy0
    | cons x t => simp at hy0; subst hy0; rfl
  have HLR := hide hlr
  have HY0 := hide hy0
  clear hR g hn hl hU h hsn hP hv0 hBs hlr hy0
  go_enter Tryz.func19, Tryz.ntmps19
  go_wp2_with (go_at_call 17; go_must ((with_reducible refine (HU.out).mono ?_); rintro e w1 ⟨a1, c1, rfl, hown1, hb1⟩; obtain ⟨r0, r1, r2, r3⟩ := (hX.belowN hb1).c2))
  have hB1 := hb0.trans (hb1.mono hb0.size)
  have hz1 := hB1.size
  go_loopw [27] (fun iv wr => ∃ (k : Nat), iv = .int .i64 k ∧ k ≤ nr ∧ Below w1.heap.size w1 wr ∧ okStart v0 ((hs.map (·.v)).drop k) (r.drop k) = Bs) (fun iv _ => nr - (intOf iv).toNat)
  case atStart => exact ⟨0, rfl, by omega, Below.refl _ _, by rw [List.drop_zero, List.drop_zero]; exact HBS.out⟩
  case round =>
    obtain ⟨k, rfl, hk, hb3, hok⟩ := hrel
    have hz3 := hb3.size
    have hBw := hB1.trans (hb3.mono hz1)
    by_cases hlt : k < nr
    · obtain ⟨b1, off1, y, rfl, hy, c0, c1⟩ := (hst.belowN hBw).getPo (Below.refl _ _) (k := k) (by rw [← HSN.out]; exact hlt)
      obtain ⟨bz, offz, yz, hez, hyz, c2, c3⟩ := (hst.belowN hBw).getPo (Below.refl _ _) (k := 0) (by rw [← HSN.out]; exact h1)
      cases hez
      obtain rfl : yz = y0 := Option.some.inj (hyz.out.symm.trans HY0.out)
      rw [hyv, Nat.zero_mul, Nat.add_zero] at c2
      obtain ⟨L, hL⟩ : ∃ L, r[k]? = some L := ⟨r[k]'(by have := HLR.out; omega), List.getElem?_eq_getElem _⟩
      obtain ⟨hTx, hn6, hl6⟩ := (HP.out).2 k y L hy.out hL
      rw [okStart_drop hy.out hL] at hok
      obtain ⟨C, hC⟩ : ∃ C, checkP y.v L = C := ⟨_, rfl⟩
      rw [hC] at hok
      have hbx : b1 < wr.heap.size := World.block_lt_of_cell? wr _ c0
      have HCK := hide (fun (W : World) (hW : Below w.heap.size w W) => Check_calls y.v y.a y.n y.c L hTx.len W (hTx.at_.at_.belowN hW) hn6 hl6 C hC)
      have HBW := hide hBw
      have HY := hide hy
      have HOK := hide hok
      have HL := hide hL
      clear hTx hn6 hl6 hL hC hyz hy hok
      obtain ⟨gx, hgx⟩ : ∃ gx, wr.heap.size = gx := ⟨_, rfl⟩
      have hXb := Blk.new wr 42 #[.int .i64 y.v, .slice y.a y.n y.c]
      have hdq : Below wr.heap.size wr (wr.alloc (.cells #[.int .i64 y.v, .slice y.a y.n y.c] 42)).drew := Below.drew (below_box wr _)
      rw [hgx] at hXb
      have hbq := hXb.lt
      have c9 := (cell_later (below_box wr (.cells #[.int .i64 y.v, .slice y.a y.n y.c] 42)) c2)
      have HSI : Hid (∀ w4, Below (wr.alloc (.cells #[.int .i64 y.v, .slice y.a y.n y.c] 42)).heap.size (wr.alloc (.cells #[.int .i64 y.v, .slice y.a y.n y.c] 42)) w4 → w4.cell? ⟨gx, 0, none⟩ = some (.int .i64 y.v) ∧ w4.cell? ⟨gx, 1, none⟩ = some (.slice y.a y.n y.c) ∧ w4.cell? ⟨b1, off1, none⟩ = some (.int .i64 v0)) := hide (fun w4 hb4 => by
        obtain ⟨y0, _⟩ := bcell hb4
        obtain ⟨n0, n1, n2, n3⟩ := hXb.c2
        exact ⟨(y0 _ _ hbq).trans n0, (y0 _ _ hbq).trans n1, (y0 _ _ (by have := World.size_alloc wr (.cells #[.int .i64 y.v, .slice y.a y.n y.c] 42); omega)).trans c9⟩)
      obtain ⟨n0, n1, n2, n3⟩ := hXb.c2
      have h00 : 0 < nr := h1
      have h01 : (0 : Int) < (nr : Int) := by omega
      have hfq := HBW.out.trans (hdq.mono HBW.out.size)
      have hid : Below (wr.alloc (.cells #[.int .i64 y.v, .slice y.a y.n y.c] 42)).heap.size (wr.alloc (.cells #[.int .i64 y.v, .slice y.a y.n y.c] 42)) (wr.alloc (.cells #[.int .i64 y.v, .slice y.a y.n y.c] 42)).drew := Below.drew (Below.refl _ _)
      have hend : ∀ w4, Below (wr.alloc (.cells #[.int .i64 y.v, .slice y.a y.n y.c] 42)).drew.heap.size (wr.alloc (.cells #[.int .i64 y.v, .slice y.a y.n y.c] 42)).drew w4 → Below w1.heap.size w1 w4 := fun w4 h4 => (hb3.trans (hdq.mono hz3)).trans (h4.mono (by have := hdq.size; omega))
      have HEND := hide hend
      clear hend
      by_cases hC0 : C = false
      · subst hC0
        have hC : (false && decide (y.v = v0) && okStart v0 ((hs.map (·.v)).drop (k + 1)) (r.drop (k + 1))) = false := rfl
        have HC := hide hC
        clear hC
        obtain ⟨S', hS'⟩ : ∃ S' : World → Prop, S' = fun w' => w'.cell? ⟨gx, 0, none⟩ = some (.int .i64 y.v) ∧ w'.cell? ⟨gx, 1, none⟩ = some (.slice y.a y.n y.c) := ⟨_, rfl⟩
        have HSE : Hid (∀ w', S' w' → w'.cell? ⟨gx, 0, none⟩ = some (.int .i64 y.v) ∧ w'.cell? ⟨gx, 1, none⟩ = some (.slice y.a y.n y.c)) := hide (fun w' h => by rw [hS'] at h; exact h)
        have HSJ : Hid (∀ w4, Below (wr.alloc (.cells #[.int .i64 y.v, .slice y.a y.n y.c] 42)).heap.size (wr.alloc (.cells #[.int .i64 y.v, .slice y.a y.n y.c] 42)) w4 → S' w4) := hide (fun w4 h4 => by rw [hS']; exact ⟨(HSI.out w4 h4).1, (HSI.out w4 h4).2.1⟩)
        clear hS'
        go_wp2
        refine wp_region_fan [0] [1, 2, 3] [4, 5, 6, 7, 8, 9, 10] [11] S' (by kernel_rfl) (by kernel_rfl) (HSJ.out _ hid) ?_
        simp only [pickL, List.filterMap_cons, List.filterMap_nil, List.getElem?_cons_succ, List.getElem?_cons_zero]
        iterate 1
          apply headK_step (by rfl)
          · intro w' hw'
            obtain ⟨s0, s1⟩ := HSE.out w' hw'
            go_simp
            rfl
          intro a' ha'
          simp only [Act.put, List.setIfInBounds_toArray, List.set_cons_succ, List.set_cons_zero] at ha'
          subst ha'
        refine headK_nil ?_
        rw [midF]
        intro K0 hK0
        have HK0 := hide hK0
        clear hK0
        go_simp
        go_at_call 49
        refine (HCK.out _ hfq).mono ?_
        rintro vv w4 ⟨rfl, hb4⟩
        have hB4 := hid.trans (hb4.mono hid.size)
        refine HK0.out _ _ (HSJ.out w4 hB4) ?_
        clear HK0
        iterate 2
          rw [midF]
          intro K0 hK0
          have HK0 := hide hK0
          clear hK0
          go_simp
          refine HK0.out _ _ (HSJ.out w4 hB4) ?_
          clear HK0
        rw [midF]
        iterate 7
          apply headK_skip (by rfl)
          intro a' ha'
          simp only [Act.put, List.setIfInBounds_toArray, List.set_cons_succ, List.set_cons_zero] at ha'
          subst ha'
        refine headK_nil ?_
        go_wp2
        refine NoPanic.normal ?_
        have hC := HC.out
        go_wp2
        go_ret2
        have hBs : Bs = false := by rw [← HOK.out, hC]
        have hRr := HR.out
        rw [hBs, if_pos rfl] at hRr
        simp only [Prod.mk.injEq] at hRr
        exact ⟨none, 0, 0, [], by rw [← hRr.1]; rfl, by rw [← hRr.2]; rfl, Own.none _ _ _, by rw [← hRr.2]; exact PsAt.nil _ _ _, hB1.trans ((HEND.out w4 hb4).mono hz1)⟩
      have hC1 : C = true := by cases C with | true => rfl | false => exact absurd rfl hC0
      subst hC1
      clear hC0
      by_cases hvv : y.v = v0
      · have v1 : (y.v == v0) = true := by simpa using hvv
        have v2 : (y.v != v0) = false := by simpa using hvv
        have hok' : okStart v0 ((hs.map (·.v)).drop (k + 1)) (r.drop (k + 1)) = Bs := by rw [← HOK.out, decide_eq_true hvv]; rfl
        have HOK2 := hide hok'
        clear hok' hvv
        go_wp2
        go_region_held3 (fun w' => w'.cell? ⟨gx, 0, none⟩ = some (.int .i64 y.v) ∧ w'.cell? ⟨gx, 1, none⟩ = some (.slice y.a y.n y.c) ∧ w'.cell? ⟨b1, off1, none⟩ = some (.int .i64 v0)) (go_keep)
          ((go_at_call 49; go_must ((with_reducible refine (HCK.out _ hfq).mono ?_); rintro vv w4 ⟨rfl, hb4⟩; obtain ⟨t0, t1, t2⟩ := HSI.out w4 (hid.trans (hb4.mono hid.size)))))
        go_wp2
        go_roundw
        case rel => exact ⟨k + 1, by go_num, by omega, HEND.out w4 hb4, HOK2.out⟩
        case measure => simp [intOf] <;> omega
      · have v1 : (y.v == v0) = false := by simpa using hvv
        have v2 : (y.v != v0) = true := by simpa using hvv
        have hC : (true && decide (y.v = v0) && okStart v0 ((hs.map (·.v)).drop (k + 1)) (r.drop (k + 1))) = false := by rw [decide_eq_false hvv]; rfl
        have HC := hide hC
        clear hC hvv
        go_wp2
        go_region_held3 (fun w' => w'.cell? ⟨gx, 0, none⟩ = some (.int .i64 y.v) ∧ w'.cell? ⟨gx, 1, none⟩ = some (.slice y.a y.n y.c) ∧ w'.cell? ⟨b1, off1, none⟩ = some (.int .i64 v0)) (go_keep)
          ((go_at_call 49; go_must ((with_reducible refine (HCK.out _ hfq).mono ?_); rintro vv w4 ⟨rfl, hb4⟩; obtain ⟨t0, t1, t2⟩ := HSI.out w4 (hid.trans (hb4.mono hid.size)))))
        have hC := HC.out
        go_wp2
        go_ret2
        have hBs : Bs = false := by rw [← HOK.out, hC]
        have hRr := HR.out
        rw [hBs, if_pos rfl] at hRr
        simp only [Prod.mk.injEq] at hRr
        exact ⟨none, 0, 0, [], by rw [← hRr.1]; rfl, by rw [← hRr.2]; rfl, Own.none _ _ _, by rw [← hRr.2]; exact PsAt.nil _ _ _, hB1.trans ((HEND.out w4 hb4).mono hz1)⟩
    · have hkn : k = nr := by omega
      subst hkn
      have hBt : Bs = true := by
        rw [← hok, List.drop_of_length_le (by rw [List.length_map, ← HSN.out]; exact Nat.le_refl _)]
        rfl
      have hall := HBS.out
      rw [hBt] at hall
      have hAll := okStart_all hall
      have hPs : PsAt (fun q => q < w.heap.size) w v0 hs r := ⟨(HP.out).1, fun i y L e1 e2 => ⟨(hAll i y L e1 e2).1, ((HP.out).2 i y L e1 e2).1⟩⟩
      have hAP : AllP v0 r := fun L hL => by
        obtain ⟨i, hi⟩ := List.getElem?_of_mem hL
        have hlt' := (List.getElem?_eq_some_iff.1 hi).1
        exact (hAll i (hs[i]'(by rw [(HP.out).1]; exact hlt')) L (List.getElem?_eq_getElem _) hi).2
      have hRr := HR.out
      rw [hBt, if_neg (by simp)] at hRr
      have HRUN := hide (RunSym_calls v0 a1 U.length c1 U rfl sa k sc hs r HSN.out h1 wr (hown1.at_.belowN hb3) (hst.belowN hBw) ((hPs.belowN hBw).imp (fun q hq => Nat.lt_of_lt_of_le hq hBw.size)) hAP HIN.out (by omega) (by omega) EE RR hRr)
      clear hall hAll hPs hAP hRr hBt hok
      go_wp2_with (go_at_call 42; go_must ((with_reducible refine (HRUN.out).mono ?_); rintro vv w9 ⟨a9, n9, c9, hs9, rfl, hn9, hown9, hP9, hb9⟩; have HN9 := hide hn9; clear hn9))
      go_ret2
      exact ⟨a9, n9, c9, hs9, rfl, HN9.out, hown9.mono hBw.size, hP9, hBw.trans (hb9.mono hBw.size)⟩
theorem After_calls (regs : Int) (a : Option Addr) (c : Nat) (l : List OpD) (sa : Option Addr) (sn sc : Nat) (hs : List PoH) (r : List (List Tm)) (hsn : sn = hs.length) (w : World) (h : At w a l) (hl : l.length ≤ 1000000) (hst : At w sa hs) (hP : PsV (fun q => q < w.heap.size) w hs r) (EE : Int) (RR : List (List Tm)) (hR : afterS regs l (hs.map (·.v)) r = (EE, RR)) :
    Calls Tryz.prog 19 #[.agg #[.int .i64 regs, .slice a l.length c], .slice sa sn sc] w (PolysOut ((hs.map (·.v)).headD 0) RR EE w) := by
  unfold afterS at hR
  by_cases hc : checkS regs l = 0
  · rw [if_neg (by simpa using hc)] at hR
    obtain ⟨f, rfl, g⟩ := good_of_check hc
    obtain ⟨nr, rfl⟩ : ∃ n : Nat, regs = n := ⟨regs.toNat, by have := g.r1; omega⟩
    rw [unrS_good g] at hR
    have hrl : r.length = sn := by rw [← hP.1, hsn]
    rw [hrl] at hR
    by_cases hd : (sn : Int) ≠ (nr : Int)
    · rw [if_pos hd] at hR
      simp only [Prod.mk.injEq] at hR
      rw [← hR.1, ← hR.2]
      exact After_dims nr a c _ f rfl g sa sn sc (by omega) w h _
    · rw [if_neg hd] at hR
      obtain rfl : sn = nr := by omega
      exact After_good sn a c _ f rfl g sa sc hs r hsn w h hst hP _ rfl EE RR hR
  · rw [if_pos hc] at hR
    simp only [Prod.mk.injEq] at hR
    rw [← hR.2]
    exact After_bad regs a c l sa sn sc w h hl hc EE _ hR.1
set_option maxRecDepth 100000 in
set_option maxHeartbeats 6400000 in
theorem After15_bad (regs : Int) (a : Option Addr) (c : Nat) (l : List OpD) (sa : Option Addr) (sn sc : Nat) (w : World) (h : At w a l) (hl : l.length ≤ 1000000) (hc : checkS regs l ≠ 0) (E va : Int) (hE : checkS regs l = E) :
    Calls Tryz.prog 20 #[.agg #[.int .i64 regs, .slice a l.length c], .slice sa sn sc] w (PolysOut va [] E w) := by
  have hb0 := below_box w (.cells #[.int .i64 regs, .slice a l.length c] 24)
  obtain ⟨p0, p1, p2, p3⟩ := (Blk.new w 24 #[.int .i64 regs, .slice a l.length c]).c2
  have HU := hide (Unroll12R regs a c l _ [] E (unrS_bad hc) hE (h.belowN hb0) hl)
  have e1 : (E == 0) = false := by rw [← hE]; simpa using hc
  have e2 : (E != 0) = true := by rw [← hE]; simpa using hc
  clear hE hc
  go_enter Tryz.func20, Tryz.ntmps20
  go_wp2_with (go_at_call 43; go_must ((with_reducible refine (HU.out).mono ?_); rintro e w1 ⟨a1, c1, rfl, hown1, hb1⟩))
  go_ret2
  exact ⟨none, 0, 0, [], rfl, rfl, Own.none _ _ _, PsAt.nil _ _ _, hb0.trans (hb1.mono hb0.size)⟩
set_option maxRecDepth 100000 in
set_option maxHeartbeats 6400000 in
theorem After15_dims (nr : Nat) (a : Option Addr) (c n : Nat) (f : Fo) (hn : n = f.flat.length) (g : Good (nr : Int) f) (sa : Option Addr) (sn sc : Nat) (hsn : sn ≠ nr) (w : World) (h : At w a f.flat) (va : Int) :
    Calls Tryz.prog 20 #[.agg #[.int .i64 (nr : Int), .slice a n c], .slice sa sn sc] w (PolysOut va [] 10 w) := by
  have hl : f.flat.length ≤ 4096 := g.len
  have hb0 := below_box w (.cells #[.int .i64 (nr : Int), .slice a n c] 24)
  have hX := Blk.new w 24 #[.int .i64 (nr : Int), .slice a n c]
  obtain ⟨p0, p1, p2, p3⟩ := hX.c2
  have HU := hide (Unroll12R (nr : Int) a c f.flat _ f.unroll 0 (unrS_good g) g.check (h.belowN hb0) (by omega))
  rw [← hn] at HU
  obtain ⟨U, hU⟩ : ∃ U, f.unroll = U := ⟨_, rfl⟩
  rw [hU] at HU
  have d1 : ((sn : Int) != (nr : Int)) = true := by simp; omega
  have d2 : ((sn : Int) == (nr : Int)) = false := by simp; omega
  clear g hn hl hU h hsn
  go_enter Tryz.func20, Tryz.ntmps20
  go_wp2_with (go_at_call 43; go_must ((with_reducible refine (HU.out).mono ?_); rintro e w1 ⟨a1, c1, rfl, hown1, hb1⟩; obtain ⟨r0, r1, r2, r3⟩ := (hX.belowN hb1).c2))
  go_ret2
  exact ⟨none, 0, 0, [], rfl, rfl, Own.none _ _ _, PsAt.nil _ _ _, hb0.trans (hb1.mono hb0.size)⟩
set_option maxRecDepth 100000 in
set_option maxHeartbeats 6400000 in
theorem After15_good (nr : Nat) (a : Option Addr) (c n : Nat) (f : Fo) (hn : n = f.flat.length) (g : Good (nr : Int) f) (sa : Option Addr) (sc : Nat) (hs : List PoH) (r : List (List Tm)) (hsn : nr = hs.length) (w : World) (h : At w a f.flat) (hst : At w sa hs) (hP : PsV (fun q => q < w.heap.size) w hs r)
    (v0 : Int) (hv0 : (hs.map (·.v)).headD 0 = v0) (EE : Int) (RR : List (List Tm)) (hR : (if okStart v0 (hs.map (·.v)) r = false then (2, []) else runS v0 f.unroll r) = (EE, RR)) :
    Calls Tryz.prog 20 #[.agg #[.int .i64 (nr : Int), .slice a n c], .slice sa nr sc] w (PolysOut v0 RR EE w) := by
  have hl : f.flat.length ≤ 4096 := g.len
  have h1 : 1 ≤ nr := by have := g.r1; omega
  have h64 : nr ≤ 64 := by have := g.r2; omega
  have hb0 := below_box w (.cells #[.int .i64 (nr : Int), .slice a n c] 24)
  have hX := Blk.new w 24 #[.int .i64 (nr : Int), .slice a n c]
  obtain ⟨p0, p1, p2, p3⟩ := hX.c2
  have HU := hide (Unroll12R (nr : Int) a c f.flat _ f.unroll 0 (unrS_good g) g.check (h.belowN hb0) (by omega))
  rw [← hn] at HU
  have HIN := hide (fun x hx => (⟨(f.unroll_mem g.ok x hx).2, g.inR x hx⟩ : (1 ≤ x.kind ∧ x.kind ≤ 6) ∧ InR (nr : Int) x))
  have hul := g.unroll_le
  obtain ⟨U, hU⟩ : ∃ U, f.unroll = U := ⟨_, rfl⟩
  rw [hU] at HU HIN hR hul
  obtain ⟨Bs, hBs⟩ : ∃ B, okStart v0 (hs.map (·.v)) r = B := ⟨_, rfl⟩
  rw [hBs] at hR
  have HR := hide hR
  have HSN := hide hsn
  have HP := hide hP
  have HBS := hide hBs
  have hlr : r.length = nr := by rw [← hP.1, hsn]
  obtain ⟨y0, hy0⟩ : ∃ y, hs[0]? = some y := ⟨hs[0]'(by omega), List.getElem?_eq_getElem _⟩
  have hyv : y0.v = v0 := by
    rw [← hv0]
    cases hs with
    | nil => simp at hy0
    | cons x t => simp at hy0; subst hy0; rfl
  have HLR := hide hlr
  have HY0 := hide hy0
  clear hR g hn hl hU h hsn hP hv0 hBs hlr hy0
  go_enter Tryz.func20, Tryz.ntmps20
  go_wp2_with (go_at_call 43; go_must ((with_reducible refine (HU.out).mono ?_); rintro e w1 ⟨a1, c1, rfl, hown1, hb1⟩; obtain ⟨r0, r1, r2, r3⟩ := (hX.belowN hb1).c2))
  have hB1 := hb0.trans (hb1.mono hb0.size)
  have hz1 := hB1.size
  go_loopw [8] (fun iv wr => ∃ (k : Nat), iv = .int .i64 k ∧ k ≤ nr ∧ Below w1.heap.size w1 wr ∧ okStart v0 ((hs.map (·.v)).drop k) (r.drop k) = Bs) (fun iv _ => nr - (intOf iv).toNat)
  case atStart => exact ⟨0, rfl, by omega, Below.refl _ _, by rw [List.drop_zero, List.drop_zero]; exact HBS.out⟩
  case round =>
    obtain ⟨k, rfl, hk, hb3, hok⟩ := hrel
    have hz3 := hb3.size
    have hBw := hB1.trans (hb3.mono hz1)
    by_cases hlt : k < nr
    · obtain ⟨b1, off1, y, rfl, hy, c0, c1⟩ := (hst.belowN hBw).getPo (Below.refl _ _) (k := k) (by rw [← HSN.out]; exact hlt)
      obtain ⟨bz, offz, yz, hez, hyz, c2, c3⟩ := (hst.belowN hBw).getPo (Below.refl _ _) (k := 0) (by rw [← HSN.out]; exact h1)
      cases hez
      obtain rfl : yz = y0 := Option.some.inj (hyz.out.symm.trans HY0.out)
      rw [hyv, Nat.zero_mul, Nat.add_zero] at c2
      obtain ⟨L, hL⟩ : ∃ L, r[k]? = some L := ⟨r[k]'(by have := HLR.out; omega), List.getElem?_eq_getElem _⟩
      obtain ⟨hTx, hn6, hl6⟩ := (HP.out).2 k y L hy.out hL
      rw [okStart_drop hy.out hL] at hok
      obtain ⟨C, hC⟩ : ∃ C, checkP y.v L = C := ⟨_, rfl⟩
      rw [hC] at hok
      have hbx : b1 < wr.heap.size := World.block_lt_of_cell? wr _ c0
      have HCK := hide (fun (W : World) (hW : Below w.heap.size w W) => RCheck_calls y.v y.a y.n y.c L hTx.len W (hTx.at_.at_.belowN hW) hn6 hl6 C hC)
      have HBW := hide hBw
      have HY := hide hy
      have HOK := hide hok
      have HL := hide hL
      clear hTx hn6 hl6 hL hC hyz hy hok
      have hdq : Below wr.heap.size wr wr.drew := Below.drew (Below.refl _ _)
      have HSI : Hid (∀ w4, Below wr.heap.size wr w4 → w4.cell? ⟨b1, off1 + k * 2, none⟩ = some (.int .i64 y.v) ∧ w4.cell? ⟨b1, off1 + k * 2 + 1, none⟩ = some (.slice y.a y.n y.c) ∧ w4.cell? ⟨b1, off1, none⟩ = some (.int .i64 v0)) := hide (fun w4 hb4 => by
        obtain ⟨y0, _⟩ := bcell hb4
        exact ⟨(y0 _ _ hbx).trans c0, (y0 _ _ hbx).trans c1, (y0 _ _ hbx).trans c2⟩)
      have h00 : 0 < nr := h1
      have h01 : (0 : Int) < (nr : Int) := by omega
      have hfq := HBW.out.trans (hdq.mono HBW.out.size)
      have hid : Below wr.heap.size wr wr.drew := Below.drew (Below.refl _ _)
      have hend : ∀ w4, Below wr.drew.heap.size wr.drew w4 → Below w1.heap.size w1 w4 := fun w4 h4 => (hb3.trans (hdq.mono hz3)).trans (h4.mono (by have := hdq.size; omega))
      have HEND := hide hend
      clear hend
      by_cases hC0 : C = false
      · subst hC0
        have hC : (false && decide (y.v = v0) && okStart v0 ((hs.map (·.v)).drop (k + 1)) (r.drop (k + 1))) = false := rfl
        have HC := hide hC
        clear hC
        obtain ⟨S', hS'⟩ : ∃ S' : World → Prop, S' = fun w' => w'.cell? ⟨b1, off1 + k * 2, none⟩ = some (.int .i64 y.v) ∧ w'.cell? ⟨b1, off1 + k * 2 + 1, none⟩ = some (.slice y.a y.n y.c) := ⟨_, rfl⟩
        have HSE : Hid (∀ w', S' w' → w'.cell? ⟨b1, off1 + k * 2, none⟩ = some (.int .i64 y.v) ∧ w'.cell? ⟨b1, off1 + k * 2 + 1, none⟩ = some (.slice y.a y.n y.c)) := hide (fun w' h => by rw [hS'] at h; exact h)
        have HSJ : Hid (∀ w4, Below wr.heap.size wr w4 → S' w4) := hide (fun w4 h4 => by rw [hS']; exact ⟨(HSI.out w4 h4).1, (HSI.out w4 h4).2.1⟩)
        clear hS'
        go_wp2
        refine wp_region_fan [0, 1, 2, 3] [4, 5, 6] [7, 8, 9, 10, 11, 12, 13, 14, 15, 16] [17] S' (by kernel_rfl) (by kernel_rfl) (HSJ.out _ hid) ?_
        simp only [pickL, List.filterMap_cons, List.filterMap_nil, List.getElem?_cons_succ, List.getElem?_cons_zero]
        iterate 4
          apply headK_step (by rfl)
          · intro w' hw'
            obtain ⟨s0, s1⟩ := HSE.out w' hw'
            go_simp
            rfl
          intro a' ha'
          simp only [Act.put, List.setIfInBounds_toArray, List.set_cons_succ, List.set_cons_zero] at ha'
          subst ha'
        refine headK_nil ?_
        rw [midF]
        intro K0 hK0
        have HK0 := hide hK0
        clear hK0
        go_simp
        go_at_call 50
        refine (HCK.out _ hfq).mono ?_
        rintro vv w4 ⟨rfl, hb4⟩
        have hB4 := hid.trans (hb4.mono hid.size)
        refine HK0.out _ _ (HSJ.out w4 hB4) ?_
        clear HK0
        iterate 2
          rw [midF]
          intro K0 hK0
          have HK0 := hide hK0
          clear hK0
          go_simp
          refine HK0.out _ _ (HSJ.out w4 hB4) ?_
          clear HK0
        rw [midF]
        iterate 10
          apply headK_skip (by rfl)
          intro a' ha'
          simp only [Act.put, List.setIfInBounds_toArray, List.set_cons_succ, List.set_cons_zero] at ha'
          subst ha'
        refine headK_nil ?_
        go_wp2
        refine NoPanic.normal ?_
        have hC := HC.out
        go_wp2
        go_ret2
        have hBs : Bs = false := by rw [← HOK.out, hC]
        have hRr := HR.out
        rw [hBs, if_pos rfl] at hRr
        simp only [Prod.mk.injEq] at hRr
        exact ⟨none, 0, 0, [], by rw [← hRr.1]; rfl, by rw [← hRr.2]; rfl, Own.none _ _ _, by rw [← hRr.2]; exact PsAt.nil _ _ _, hB1.trans ((HEND.out w4 hb4).mono hz1)⟩
      have hC1 : C = true := by cases C with | true => rfl | false => exact absurd rfl hC0
      subst hC1
      clear hC0
      by_cases hvv : y.v = v0
      · have v1 : (y.v == v0) = true := by simpa using hvv
        have v2 : (y.v != v0) = false := by simpa using hvv
        have hok' : okStart v0 ((hs.map (·.v)).drop (k + 1)) (r.drop (k + 1)) = Bs := by rw [← HOK.out, decide_eq_true hvv]; rfl
        have HOK2 := hide hok'
        clear hok' hvv
        go_wp2
        go_region_held3 (fun w' => w'.cell? ⟨b1, off1 + k * 2, none⟩ = some (.int .i64 y.v) ∧ w'.cell? ⟨b1, off1 + k * 2 + 1, none⟩ = some (.slice y.a y.n y.c) ∧ w'.cell? ⟨b1, off1, none⟩ = some (.int .i64 v0)) (go_keep)
          ((go_at_call 50; go_must ((with_reducible refine (HCK.out _ hfq).mono ?_); rintro vv w4 ⟨rfl, hb4⟩; obtain ⟨t0, t1, t2⟩ := HSI.out w4 (hid.trans (hb4.mono hid.size)))))
        go_wp2
        go_roundw
        case rel => exact ⟨k + 1, by go_num, by omega, HEND.out w4 hb4, HOK2.out⟩
        case measure => simp [intOf] <;> omega
      · have v1 : (y.v == v0) = false := by simpa using hvv
        have v2 : (y.v != v0) = true := by simpa using hvv
        have hC : (true && decide (y.v = v0) && okStart v0 ((hs.map (·.v)).drop (k + 1)) (r.drop (k + 1))) = false := by rw [decide_eq_false hvv]; rfl
        have HC := hide hC
        clear hC hvv
        go_wp2
        go_region_held3 (fun w' => w'.cell? ⟨b1, off1 + k * 2, none⟩ = some (.int .i64 y.v) ∧ w'.cell? ⟨b1, off1 + k * 2 + 1, none⟩ = some (.slice y.a y.n y.c) ∧ w'.cell? ⟨b1, off1, none⟩ = some (.int .i64 v0)) (go_keep)
          ((go_at_call 50; go_must ((with_reducible refine (HCK.out _ hfq).mono ?_); rintro vv w4 ⟨rfl, hb4⟩; obtain ⟨t0, t1, t2⟩ := HSI.out w4 (hid.trans (hb4.mono hid.size)))))
        have hC := HC.out
        go_wp2
        go_ret2
        have hBs : Bs = false := by rw [← HOK.out, hC]
        have hRr := HR.out
        rw [hBs, if_pos rfl] at hRr
        simp only [Prod.mk.injEq] at hRr
        exact ⟨none, 0, 0, [], by rw [← hRr.1]; rfl, by rw [← hRr.2]; rfl, Own.none _ _ _, by rw [← hRr.2]; exact PsAt.nil _ _ _, hB1.trans ((HEND.out w4 hb4).mono hz1)⟩
    · have hkn : k = nr := by omega
      subst hkn
      have hBt : Bs = true := by
        rw [← hok, List.drop_of_length_le (by rw [List.length_map, ← HSN.out]; exact Nat.le_refl _)]
        rfl
      have hall := HBS.out
      rw [hBt] at hall
      have hAll := okStart_all hall
      have hPs : PsAt (fun q => q < w.heap.size) w v0 hs r := ⟨(HP.out).1, fun i y L e1 e2 => ⟨(hAll i y L e1 e2).1, ((HP.out).2 i y L e1 e2).1⟩⟩
      have hAP : AllP v0 r := fun L hL => by
        obtain ⟨i, hi⟩ := List.getElem?_of_mem hL
        have hlt' := (List.getElem?_eq_some_iff.1 hi).1
        exact (hAll i (hs[i]'(by rw [(HP.out).1]; exact hlt')) L (List.getElem?_eq_getElem _) hi).2
      have hRr := HR.out
      rw [hBt, if_neg (by simp)] at hRr
      have HRUN := hide (Run15_calls v0 a1 U.length c1 U rfl sa k sc hs r HSN.out h1 wr (hown1.at_.belowN hb3) (hst.belowN hBw) ((hPs.belowN hBw).imp (fun q hq => Nat.lt_of_lt_of_le hq hBw.size)) hAP HIN.out (by omega) (by omega) EE RR hRr)
      clear hall hAll hPs hAP hRr hBt hok
      go_wp2_with (go_at_call 45; go_must ((with_reducible refine (HRUN.out).mono ?_); rintro vv w9 ⟨a9, n9, c9, hs9, rfl, hn9, hown9, hP9, hb9⟩; have HN9 := hide hn9; clear hn9))
      go_ret2
      exact ⟨a9, n9, c9, hs9, rfl, HN9.out, hown9.mono hBw.size, hP9, hBw.trans (hb9.mono hBw.size)⟩
theorem After15_calls (regs : Int) (a : Option Addr) (c : Nat) (l : List OpD) (sa : Option Addr) (sn sc : Nat) (hs : List PoH) (r : List (List Tm)) (hsn : sn = hs.length) (w : World) (h : At w a l) (hl : l.length ≤ 1000000) (hst : At w sa hs) (hP : PsV (fun q => q < w.heap.size) w hs r) (EE : Int) (RR : List (List Tm)) (hR : afterS regs l (hs.map (·.v)) r = (EE, RR)) :
    Calls Tryz.prog 20 #[.agg #[.int .i64 regs, .slice a l.length c], .slice sa sn sc] w (PolysOut ((hs.map (·.v)).headD 0) RR EE w) := by
  unfold afterS at hR
  by_cases hc : checkS regs l = 0
  · rw [if_neg (by simpa using hc)] at hR
    obtain ⟨f, rfl, g⟩ := good_of_check hc
    obtain ⟨nr, rfl⟩ : ∃ n : Nat, regs = n := ⟨regs.toNat, by have := g.r1; omega⟩
    rw [unrS_good g] at hR
    have hrl : r.length = sn := by rw [← hP.1, hsn]
    rw [hrl] at hR
    by_cases hd : (sn : Int) ≠ (nr : Int)
    · rw [if_pos hd] at hR
      simp only [Prod.mk.injEq] at hR
      rw [← hR.1, ← hR.2]
      exact After15_dims nr a c _ f rfl g sa sn sc (by omega) w h _
    · rw [if_neg hd] at hR
      obtain rfl : sn = nr := by omega
      exact After15_good sn a c _ f rfl g sa sc hs r hsn w h hst hP _ rfl EE RR hR
  · rw [if_pos hc] at hR
    simp only [Prod.mk.injEq] at hR
    rw [← hR.2]
    exact After15_bad regs a c l sa sn sc w h hl hc EE _ hR.1
end Go.Proofs.YtcamcnahkdiefaaGreat

/- Chapter 15: which programs are small; lists of polynomials that are alike; the page's example. -/
namespace Go.Proofs.YtcamcnahkdiefaaGreat
set_option linter.unusedVariables false
set_option linter.unusedSimpArgs false
open Go.RowKit
/-- the page's example -/
def exO15 : Fo := .leaf ⟨1, 0, 0, 1, 0⟩ (.leaf ⟨3, 0, 0, 0, 0⟩ .nil)
def exS15 : List Tm := [(1, [2, 0]), (2, [1, 1]), (1, [0, 2])]
def exD15 : List Tm := [(2, [1, 0]), (2, [0, 1])]
theorem exO15_good : Good 2 exO15 := good_of_lit (by simp [exO15, Fo.ok]) (by decide)
theorem exO15_run : polysS 2 exO15.flat = (0, [exS15, [(1, [0, 1])]]) := by
  unfold polysS
  rw [exO15_good.check, if_pos rfl, unrS_good exO15_good]
  kernel_rfl
theorem exO15_grad : gradS 2 exO15.flat 0 = (0, [sortT (drvT 0 exS15), exD15]) := by
  have e : sortT (drvT 1 exS15) = exD15 := by kernel_rfl
  unfold gradS
  rw [exO15_run, if_neg (by simp), if_neg (by simp)]
  show (0, [sortT (drvT 0 exS15), sortT (drvT 1 exS15)]) = _
  rw [e]
theorem ex15_len : (sortT (drvT 0 exS15)).length = 2 := by kernel_rfl
/-- is a program small? -/
noncomputable def small15 (regs : Int) (l : List OpD) : Bool := decide (l.length ≤ 40) && (decide (checkS regs l ≠ 0) || (decide ((unrS regs l).length ≤ 7) && decide (regs ≤ 4)))
set_option maxRecDepth 100000 in
set_option maxHeartbeats 3200000 in
theorem Small15_calls (regs : Int) (a : Option Addr) (c : Nat) (l : List OpD) (w : World) (h : At w a l) (hl : l.length ≤ 1000000) (B : Bool) (hB : small15 regs l = B) :
    Calls Tryz.prog 10 #[.agg #[.int .i64 regs, .slice a l.length c]] w fun e w' => e = .returned (.bool B) ∧ Below w.heap.size w w' := by
  have hb0 := below_box w (.cells #[.int .i64 regs, .slice a l.length c] 24)
  have hX := Blk.new w 24 #[.int .i64 regs, .slice a l.length c]
  obtain ⟨p0, p1, p2, p3⟩ := hX.c2
  obtain ⟨U, hU⟩ : ∃ U, unrS regs l = U := ⟨_, rfl⟩
  obtain ⟨E, hE⟩ : ∃ E, checkS regs l = E := ⟨_, rfl⟩
  have HU := hide (UnrollR regs a c l _ U E hU hE (h.belowN hb0) hl)
  unfold small15 at hB
  rw [hU, hE] at hB
  obtain ⟨ln, hln⟩ : ∃ n, l.length = n := ⟨_, rfl⟩
  rw [hln] at hB HU p0 p1 p2 p3 hb0 hX hl ⊢
  obtain ⟨un, hun⟩ : ∃ n, U.length = n := ⟨_, rfl⟩
  rw [hun] at hB HU
  clear hU hE h hln hun
  by_cases h40 : ln ≤ 40
  · have k1 : (ln : Int) ≤ 40 := by omega
    by_cases he : E = 0
    · subst he
      by_cases h7 : un ≤ 7
      · have k2 : (un : Int) ≤ 7 := by omega
        by_cases h4 : regs ≤ 4
        · have hBt : B = true := by rw [← hB]; simp [h40, h7, h4]
          subst hBt
          clear hB
          go_enter Tryz.func10, Tryz.ntmps10
          go_wp2_with (go_at_call 17; go_must ((with_reducible refine (HU.out).mono ?_); rintro e w1 ⟨a1, c1, rfl, hown1, hb1⟩; obtain ⟨r0, r1, r2, r3⟩ := (hX.belowN hb1).c2))
          go_ret
          exact ⟨rfl, hb0.trans (hb1.mono hb0.size)⟩
        · have hBt : B = false := by rw [← hB]; simp [h4]
          subst hBt
          have d4 : decide (regs ≤ 4) = false := decide_eq_false h4
          clear hB
          go_enter Tryz.func10, Tryz.ntmps10
          go_wp2_with (go_at_call 17; go_must ((with_reducible refine (HU.out).mono ?_); rintro e w1 ⟨a1, c1, rfl, hown1, hb1⟩; obtain ⟨r0, r1, r2, r3⟩ := (hX.belowN hb1).c2))
          go_ret
          exact ⟨rfl, hb0.trans (hb1.mono hb0.size)⟩
      · have hBt : B = false := by rw [← hB]; simp [h7]
        subst hBt
        have d7 : decide (un ≤ 7) = false := decide_eq_false h7
        have d8 : decide ((un : Int) ≤ 7) = false := decide_eq_false (by omega)
        have d9 : ¬ (un : Int) ≤ 7 := by omega
        clear hB
        go_enter Tryz.func10, Tryz.ntmps10
        go_wp2_with (go_at_call 17; go_must ((with_reducible refine (HU.out).mono ?_); rintro e w1 ⟨a1, c1, rfl, hown1, hb1⟩; obtain ⟨r0, r1, r2, r3⟩ := (hX.belowN hb1).c2))
        go_ret
        exact ⟨rfl, hb0.trans (hb1.mono hb0.size)⟩
    · have hBt : B = true := by rw [← hB]; simp [h40, he]
      subst hBt
      have e1 : (E == 0) = false := by simpa using he
      have e2 : (E != 0) = true := by simpa using he
      clear hB
      go_enter Tryz.func10, Tryz.ntmps10
      go_wp2_with (go_at_call 17; go_must ((with_reducible refine (HU.out).mono ?_); rintro e w1 ⟨a1, c1, rfl, hown1, hb1⟩; obtain ⟨r0, r1, r2, r3⟩ := (hX.belowN hb1).c2))
      go_ret
      exact ⟨rfl, hb0.trans (hb1.mono hb0.size)⟩
  · have hBt : B = false := by rw [← hB]; simp [h40]
    subst hBt
    have d7 : decide (ln ≤ 40) = false := decide_eq_false h40
    have d8 : decide ((ln : Int) ≤ 40) = false := decide_eq_false (by omega)
    have d9 : ¬ (ln : Int) ≤ 40 := by omega
    clear hB
    go_enter Tryz.func10, Tryz.ntmps10
    go_wp2_with (go_at_call 17; go_must ((with_reducible refine (HU.out).mono ?_); rintro e w1 ⟨a1, c1, rfl, hown1, hb1⟩; obtain ⟨r0, r1, r2, r3⟩ := (hX.belowN hb1).c2))
    go_ret
    exact ⟨rfl, hb0.trans (hb1.mono hb0.size)⟩
set_option maxRecDepth 100000 in
set_option maxHeartbeats 3200000 in
theorem Same15_calls (P Q : Nat → Prop) (va : Int) (a b : Option Addr) (n c d : Nat) (hs1 hs2 : List PoH) (R : List (List Tm)) (hn : n = R.length) (hA : AllP va R) (hl : n ≤ 1000000) (w : World) (h1 : At w a hs1) (h2 : At w b hs2) (hP : PsAt P w va hs1 R) (hQ : PsAt Q w va hs2 R) :
    Calls Tryz.prog 16 #[.slice a n c, .slice b n d] w fun e w' => e = .returned (.bool true) ∧ Below w.heap.size w w' := by
  have HN := hide hn
  have HA := hide hA
  have HP := hide hP
  have HQ := hide hQ
  have d1 : ((n : Int) != (n : Int)) = false := by simp
  have d2 : ((n : Int) == (n : Int)) = true := by simp
  clear hn hA hP hQ
  go_enter Tryz.func16, Tryz.ntmps16
  go_wp2_with fail
  go_loopw [5] (fun iv wr => ∃ k : Nat, iv = .int .i64 k ∧ k ≤ n ∧ Below w.heap.size w wr) (fun iv _ => n - (intOf iv).toNat)
  case atStart => exact ⟨0, rfl, by omega, Below.refl _ _⟩
  case round =>
    obtain ⟨k, rfl, hk, hb⟩ := hrel
    have hz := hb.size
    by_cases hlt : k < n
    · obtain ⟨L, hL⟩ : ∃ L, R[k]? = some L := ⟨R[k]'(by have := HN.out; omega), List.getElem?_eq_getElem _⟩
      obtain ⟨b1, off1, x, rfl, hx, c0, c1⟩ := (h1.belowN hb).getPo (Below.refl _ _) (k := k) (by have := (HP.out).1; have := HN.out; omega)
      obtain ⟨b2, off2, y, rfl, hy, c2, c3⟩ := (h2.belowN hb).getPo (Below.refl _ _) (k := k) (by have := (HQ.out).1; have := HN.out; omega)
      obtain ⟨vx, tx⟩ := (HP.out).2 k x L hx.out hL
      obtain ⟨vy, ty⟩ := (HQ.out).2 k y L hy.out hL
      obtain ⟨f1, f2⟩ := checkP_len ((HA.out) L (List.mem_of_getElem? hL))
      rw [vx] at c0
      rw [vy] at c2
      have HS := hide (fun (W : World) (hW : Below w.heap.size w W) => RSame_calls va va x.a y.a x.n y.n x.c y.c L L tx.len ty.len W (tx.at_.at_.belowN hW) (ty.at_.at_.belowN hW) (by rw [tx.len]; exact f1) f2 true (sameP_self _ _))
      have hbx : b1 < wr.heap.size := World.block_lt_of_cell? wr _ c0
      have hby : b2 < wr.heap.size := World.block_lt_of_cell? wr _ c2
      have hdq : Below wr.heap.size wr wr.drew := Below.drew (Below.refl _ _)
      have hfq := hb.trans (hdq.mono hz)
      have HSI : Hid (∀ w4, Below wr.heap.size wr w4 → (w4.cell? ⟨b1, off1 + k * 2, none⟩ = some (.int .i64 va) ∧ w4.cell? ⟨b1, off1 + k * 2 + 1, none⟩ = some (.slice x.a x.n x.c)) ∧ w4.cell? ⟨b2, off2 + k * 2, none⟩ = some (.int .i64 va) ∧ w4.cell? ⟨b2, off2 + k * 2 + 1, none⟩ = some (.slice y.a y.n y.c)) := hide (fun w4 hb4 => by
        obtain ⟨y0, _⟩ := bcell hb4
        exact ⟨⟨(y0 _ _ hbx).trans c0, (y0 _ _ hbx).trans c1⟩, (y0 _ _ hby).trans c2, (y0 _ _ hby).trans c3⟩)
      clear hL hx hy vx vy tx ty f1 f2
      go_wp2_with fail
      go_region_held3 (fun w' => (w'.cell? ⟨b1, off1 + k * 2, none⟩ = some (.int .i64 va) ∧ w'.cell? ⟨b1, off1 + k * 2 + 1, none⟩ = some (.slice x.a x.n x.c)) ∧ w'.cell? ⟨b2, off2 + k * 2, none⟩ = some (.int .i64 va) ∧ w'.cell? ⟨b2, off2 + k * 2 + 1, none⟩ = some (.slice y.a y.n y.c)) (go_keep)
        ((go_at_call 31; go_must ((with_reducible refine (HS.out _ hfq).mono ?_); rintro vv w4 ⟨rfl, hb4⟩; obtain ⟨⟨t0, t1⟩, t2, t3⟩ := HSI.out w4 (hdq.trans (hb4.mono hdq.size)))))
      go_wp2
      go_roundw
      case rel => exact ⟨k + 1, by go_num, by omega, hfq.trans (hb4.mono hfq.size)⟩
      case measure => simp [intOf] <;> omega
    · have hkn : k = n := by omega
      subst hkn
      go_wp2
      go_ret
      exact ⟨rfl, hb⟩
end Go.Proofs.YtcamcnahkdiefaaGreat
