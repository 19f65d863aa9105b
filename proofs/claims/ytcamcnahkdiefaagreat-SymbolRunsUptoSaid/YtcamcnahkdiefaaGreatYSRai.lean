/- Several texts of mine in one file. -/
import Derived.Test.YtcamcnahkdiefaaGreatYSRah
import Derived.Test.YtcamcnahkdiefaaGreatYSRae
/- Several texts of mine in one file: Syh, Syi. -/
/- symbol.do: a copy; and where the state is not known and the operation has no error. -/
namespace Go.Proofs.YtcamcnahkdiefaaGreat
set_option linter.unusedVariables false
set_option linter.unusedSimpArgs false
open Go.RowKit Go.Maps
set_option maxRecDepth 100000 in
set_option maxHeartbeats 3200000 in
theorem Do_cpy (gb : Nat) (d0 a0 b0 : Int) (v : UInt64) (x y : StH) (w : World) :
    Calls Tryz.prog 86 #[.pointer (some ⟨gb, 0, none⟩), .agg #[.int .i64 6, .int .i64 d0, .int .i64 a0, .int .i64 b0, .int .u64 (v.toNat : Int)], stV x, stV y] w fun e w' => e = .returned (.tuple #[stV x, .int .i64 0]) ∧ Below w.heap.size w w' := by
  obtain ⟨hX1, hX2, hX3, hX4, hb0, hz0⟩ := four_boxes w 89 162 162 162 #[.int .i64 6, .int .i64 d0, .int .i64 a0, .int .i64 b0, .int .u64 (v.toNat : Int)] #[.int .i64 x.v, .slice x.a x.n x.c, .int .i64 x.k] #[.int .i64 y.v, .slice y.a y.n y.c, .int .i64 y.k] #[.int .i64 x.v, .slice x.a x.n x.c, .int .i64 x.k]
  go_enter Tryz.func86, Tryz.ntmps86
  go_wp2
  refine bodyPost_ret (results_rowP rfl _ _ (w.heap.size + 1 + 1 + 1) _ #[.int .i64 x.v, .slice x.a x.n x.c, .int .i64 x.k] (0, 0) _ rfl hX4 Tryz.underlying162 rfl (by kernel_rfl)) rfl ⟨rfl, hb0⟩
theorem Of_callsM (gb : Nat) (va : Int) (bm : Value) (nx m : Nat) (hm : nx + 1 = m) (hnx : nx ≤ 100000000) (a : Option Addr) (n c : Nat) (w : World) (hbk : Blk w gb 159 #[.int .i64 va, bm, .int .i64 (nx : Int)]) (pv : Int) :
    Calls Tryz.prog 85 #[.pointer (some ⟨gb, 0, none⟩), .agg #[.int .i64 pv, .slice a n c]] w fun e w' => e = .returned (.agg #[.int .i64 pv, .slice a n c, .int .i64 (m : Int)]) ∧ Blk w' gb 159 #[.int .i64 va, bm, .int .i64 (m : Int)] ∧ w.grownBy w' (some gb) := by
  subst hm
  exact Of_calls gb va bm nx hnx a n c w hbk pv
/-- what stands behind an operation that was not known -/
def DoNew (gb gm m : Nat) (va : Int) (L : List Tm) (D : DataW Value) (kl : Lit) (w : World) (e : Ending) (w' : World) : Prop :=
  ∃ (a9 : Option Addr) (n9 c9 : Nat), e = .returned (.tuple #[.agg #[.int .i64 va, .slice a9 n9 c9, .int .i64 (m : Int)], .int .i64 0]) ∧ TOut (fun q => w.heap.size ≤ q) w' a9 n9 c9 L ∧ Blk w' gb 159 #[.int .i64 va, .map (some gm), .int .i64 (m : Int)] ∧
    w'.ownsMap Tryz.prog 206 heldR gm m (D.put kl (.held (.agg #[.int .i64 va, .slice a9 n9 c9, .int .i64 (m : Int)]))) ∧ Turned [gb, gm] w w'
theorem turned_two {w a b c : World} {gb gm : Nat} (h1 : Below w.heap.size w a) (h2 : a.grownBy b (some gb)) (h3 : b.grownBy c (some gm)) : Turned [gb, gm] w c :=
  ((Turned.ofBelow (F := [gb, gm]) h1).trans (Turned.ofGrown (F := [gb, gm]) h2 (fun k hk => .inl (by injection hk with hk; simp [hk]))) (fun k hk => .inl hk)).trans (Turned.ofGrown (F := [gb, gm]) h3 (fun k hk => .inl (by injection hk with hk; simp [hk]))) (fun k hk => .inl hk)
set_option maxRecDepth 100000 in
set_option maxHeartbeats 3200000 in
theorem Do_new1 (gb gm : Nat) (hne : gb ≠ gm) (d0 a0 b0 : Int) (v : UInt64) (xa ya : Option Addr) (xn xc yn yc : Nat) (xk yk : Int) (va : Int) (n m : Nat) (hm : n + 1 = m) (hn6 : n ≤ 100000000) (D : DataW Value) (w : World) (hbk : Blk w gb 159 #[.int .i64 va, .map (some gm), .int .i64 (n : Int)]) (hown : w.ownsMap Tryz.prog 206 heldR gm n D) (hgm : gm < w.heap.size) (kl : Lit)
    (hkey : keyOf Tryz.prog 206 (doneV 1 xk yk v) = some kl) (hh : has D kl = false) (P : Nat → Prop) (A B : List Tm) (hx : TOut P w xa xn xc A) (hy : TOut P w ya yn yc B) (hQA : checkP va A = true) (hQB : checkP va B = true)
    (L : List Tm) (hV : symV va 1 v A B = va) (hL : symL va 1 v A B = L) (hE : symE va 1 v A B = 0) :
    Calls Tryz.prog 86 #[.pointer (some ⟨gb, 0, none⟩), .agg #[.int .i64 1, .int .i64 d0, .int .i64 a0, .int .i64 b0, .int .u64 (v.toNat : Int)], .agg #[.int .i64 va, .slice xa xn xc, .int .i64 xk], .agg #[.int .i64 va, .slice ya yn yc, .int .i64 yk]] w (DoNew gb gm m va L D kl w) := by
  have hgb := hbk.lt
  have HL : ∀ W', Below w.heap.size w W' → (Instr.lookup 157 (.map (some gm)) (doneV 1 xk yk v) true).run Tryz.prog W' = .ok (.tuple #[st0, .bool false]) W' := fun W' hb => by
    have := book_look (hown.kept (grown_of_below hb none) (by simp)) hkey st0 (at_miss hh _)
    rw [hh] at this
    exact this
  have HRK := hide (fun (W' : World) (hb : Below w.heap.size w W') => Reckon_calls gb 1 d0 a0 b0 v (by decide) P P va xa ya xn xc yn yc A B W' (hx.belowN hb) (hy.belowN hb) hQA hQB (.map (some gm)) (.int .i64 (n : Int)) (hbk.belowN hb) va L 0 hV hL hE)
  have HOF := hide (fun (W' : World) (hb : Below w.heap.size w W') (a9 : Option Addr) (n9 c9 : Nat) => Of_callsM gb va (.map (some gm)) n m hm hn6 a9 n9 c9 W' (hbk.belowN hb) va)
  have HOW := hide (fun (W' : World) (hb : Below w.heap.size w W') => hown.kept (grown_of_below hb none) (by simp))
  have HNM : Hid (n < maxLen) := by show _ < _; unfold maxLen; omega
  have HM := hide hm
  have HKEY := hide hkey
  obtain ⟨W1, hW1⟩ : ∃ W1, W1 = (((((w.alloc (.cells #[.int .i64 1, .int .i64 d0, .int .i64 a0, .int .i64 b0, .int .u64 (v.toNat : Int)] 89)).alloc (.cells #[.int .i64 va, .slice xa xn xc, .int .i64 xk] 162)).alloc (.cells #[.int .i64 va, .slice ya yn yc, .int .i64 yk] 162)).alloc (.cells #[.int .i64 0, .slice none 0 0, .int .i64 0] 162)).alloc (.cells #[.int .i64 1, .int .i64 xk, .int .i64 yk, .int .u64 (v.toNat : Int)] 206)) := ⟨_, rfl⟩
  obtain ⟨hX1, hX2, hX3, hX4, hX5, hb0, hz0⟩ := five_boxes w 89 162 162 162 206 #[.int .i64 1, .int .i64 d0, .int .i64 a0, .int .i64 b0, .int .u64 (v.toNat : Int)] #[.int .i64 va, .slice xa xn xc, .int .i64 xk] #[.int .i64 va, .slice ya yn yc, .int .i64 yk] #[.int .i64 0, .slice none 0 0, .int .i64 0] #[.int .i64 1, .int .i64 xk, .int .i64 yk, .int .u64 (v.toNat : Int)] W1 hW1
  have hbQ := hb0.trans ((below_box W1 (.cells #[.int .i64 0, .slice none 0 0, .int .i64 0] 162)).mono hb0.size)
  have hl1 := HL _ (Below.drew (Below.drew hb0))
  have hbR := Below.drew (Below.drew hbQ)
  have hl2 := HL _ hbR
  have hX4' := (hX4.alloc (.cells #[.int .i64 0, .slice none 0 0, .int .i64 0] 162)).belowN (Below.drew (Below.drew (Below.refl _ _)))
  have hX5' := (hX5.alloc (.cells #[.int .i64 0, .slice none 0 0, .int .i64 0] 162)).belowN (Below.drew (Below.drew (Below.refl _ _)))
  have hk1 := hbk.belowN hb0
  obtain ⟨k0, k1, k2, k3, k4, k5⟩ := hk1.c3
  obtain ⟨k6, k7, k8, k9, k10, k11⟩ := (hk1.alloc (.cells #[.int .i64 0, .slice none 0 0, .int .i64 0] 162)).c3
  rw [hW1] at hl1 hl2 k0 k1 k2 k6 k7 k8 hbR hX4' hX5'
  clear HL hown hkey hh hV hL hE hx hy hm
  go_enter Tryz.func86, Tryz.ntmps86
  go_wp2
  go_region
  go_wp2
  go_region
  all_goals go_wp2_with (first
    | (go_at_call 85; go_must (have hgd := hB10; (with_reducible refine (HOF.out _ hB10 _ _ _).mono ?_); rintro vv w11 ⟨rfl, hk11, hg11⟩; have hX11 := hX10.grown hg11 (by simp; omega); have hD11 := hD10.grown hg11 (by simp; omega); have hT11 := (hT9'.belowN (below_box w9 (.cells #[.int .i64 va, .slice a9 n9 c9] 42))).grown hg11 (fun g hg => by injection hg with hg; omega); have hm11 := (HOW.out _ hB10).kept hg11 (by intro h; injection h with h; exact hne h.symm)))
    | (go_at_call 129; go_must ((with_reducible refine (HRK.out _ hbR).mono ?_); rintro vv w9 ⟨a9, n9, c9, rfl, hT9, hb9⟩; have hB9 := hbR.trans (hb9.mono hbR.size); have hT9' := hT9.imp (Q := fun q => w.heap.size + 1 + 1 + 1 < q) (fun q hq => by have := hX4'.lt; omega); have hX9 : Blk w9 (w.heap.size + 1 + 1 + 1) 162 #[.int .i64 0, .slice none 0 0, .int .i64 0] := Blk.belowN hX4' hb9; have hD9 : Blk w9 (w.heap.size + 1 + 1 + 1 + 1) 206 #[.int .i64 1, .int .i64 xk, .int .i64 yk, .int .u64 (v.toNat : Int)] := Blk.belowN hX5' hb9; have hX10 := hX9.alloc (.cells #[.int .i64 va, .slice a9 n9 c9] 42); have hD10 := hD9.alloc (.cells #[.int .i64 va, .slice a9 n9 c9] 42); have hB10 := hB9.alloc hB9.size (.cells #[.int .i64 va, .slice a9 n9 c9] 42); have hN10 := Blk.new w9 42 #[.int .i64 va, .slice a9 n9 c9]; obtain ⟨y0, y1, y2, y3⟩ := hN10.c2)))
  all_goals
    have hS12 := Blk.new w11 162 #[.int .i64 va, .slice a9 n9 c9, .int .i64 (m : Int)]
    obtain ⟨s0, s1, s2, s3, s4, s5⟩ := hS12.c3
    obtain ⟨e0, e1, e2, e3, e4, e5, e6, e7⟩ := (hD11.alloc (.cells #[.int .i64 va, .slice a9 n9 c9, .int .i64 (m : Int)] 162)).c4
    obtain ⟨f0, f1, f2, f3, f4, f5⟩ := (hk11.alloc (.cells #[.int .i64 va, .slice a9 n9 c9, .int .i64 (m : Int)] 162)).c3
    have hdw := Below.drew (below_box w11 (.cells #[.int .i64 va, .slice a9 n9 c9, .int .i64 (m : Int)] 162))
    obtain ⟨w13, hup, hm13, hg13⟩ := (hm11.kept (grown_of_below hdw none) (by simp)).update lawD Tryz.underlying157 HNM.out HKEY.out (val := .agg #[.int .i64 va, .slice a9 n9 c9, .int .i64 (m : Int)]) (d := .held (.agg #[.int .i64 va, .slice a9 n9 c9, .int .i64 (m : Int)])) (ps := []) rfl
    have hz11 := hX11.lt
    have hX13 := (hX11.belowN hdw).grown hg13 (by simp; omega)
    have hS13 := (hS12.belowN (Below.drew (Below.refl _ _))).grown hg13 (by simp; omega)
    have hk13 := (hk11.belowN hdw).grown hg13 (by intro h; injection h with h; exact hne h)
    have hT13 := (hT11.belowN hdw).grown hg13 (fun g hg => by injection hg with hg; omega)
    obtain ⟨x0, x1, x2, x3, x4, x5⟩ := hX13.c3
    obtain ⟨t0, t1, t2, t3, t4, t5⟩ := hS13.c3
    rw [HM.out] at hm13
    have hq : w.heap.size + 1 + 1 + 1 ≠ w11.heap.size := by omega
    go_region
    go_wp2
  all_goals have hF := ((hX13.set_ 0 (.int .i64 va)).set_ 1 (.slice a9 n9 c9)).set_ 2 (.int .i64 (m : Int))
  all_goals refine bodyPost_ret (results_rowP rfl _ _ (w.heap.size + 1 + 1 + 1) _ #[.int .i64 va, .slice a9 n9 c9, .int .i64 (m : Int)] (0, 0) _ rfl hF Tryz.underlying162 rfl (by kernel_rfl)) rfl ?_
  all_goals
    have hs0 := grown_setCell w13 (w.heap.size + 1 + 1 + 1) 0 (.int .i64 va)
    have hs1 := grown_trans hs0 (grown_setCell _ (w.heap.size + 1 + 1 + 1) 1 (.slice a9 n9 c9))
    have hs2 := grown_trans hs1 (grown_setCell _ (w.heap.size + 1 + 1 + 1) 2 (.int .i64 (m : Int)))
    refine ⟨a9, n9, c9, rfl, (hT13.grown hs2 (fun g hg => by injection hg with hg; omega)).imp (fun q hq => by omega), hk13.grown hs2 (by simp; omega), hm13.kept hs2 (by simp; omega), ?_⟩
    exact (turned_two hB10 hg11 (grown_trans (grown_of_below hdw _) hg13)).trans (Turned.ofGrown (F := [w.heap.size + 1 + 1 + 1]) hs2 (fun k hk => .inl (by injection hk with hk; simp [hk]))) (fun k hk => .inr (by simp at hk; omega))
set_option maxRecDepth 100000 in
set_option maxHeartbeats 3200000 in
theorem Do_new2 (gb gm : Nat) (hne : gb ≠ gm) (d0 a0 b0 : Int) (v : UInt64) (xa ya : Option Addr) (xn xc yn yc : Nat) (xk yk : Int) (va : Int) (n m : Nat) (hm : n + 1 = m) (hn6 : n ≤ 100000000) (D : DataW Value) (w : World) (hbk : Blk w gb 159 #[.int .i64 va, .map (some gm), .int .i64 (n : Int)]) (hown : w.ownsMap Tryz.prog 206 heldR gm n D) (hgm : gm < w.heap.size) (kl : Lit)
    (hkey : keyOf Tryz.prog 206 (doneV 2 xk yk v) = some kl) (hh : has D kl = false) (P : Nat → Prop) (A B : List Tm) (hx : TOut P w xa xn xc A) (hy : TOut P w ya yn yc B) (hQA : checkP va A = true) (hQB : checkP va B = true)
    (L : List Tm) (hV : symV va 2 v A B = va) (hL : symL va 2 v A B = L) (hE : symE va 2 v A B = 0) :
    Calls Tryz.prog 86 #[.pointer (some ⟨gb, 0, none⟩), .agg #[.int .i64 2, .int .i64 d0, .int .i64 a0, .int .i64 b0, .int .u64 (v.toNat : Int)], .agg #[.int .i64 va, .slice xa xn xc, .int .i64 xk], .agg #[.int .i64 va, .slice ya yn yc, .int .i64 yk]] w (DoNew gb gm m va L D kl w) := by
  have hgb := hbk.lt
  have HL : ∀ W', Below w.heap.size w W' → (Instr.lookup 157 (.map (some gm)) (doneV 2 xk yk v) true).run Tryz.prog W' = .ok (.tuple #[st0, .bool false]) W' := fun W' hb => by
    have := book_look (hown.kept (grown_of_below hb none) (by simp)) hkey st0 (at_miss hh _)
    rw [hh] at this
    exact this
  have HRK := hide (fun (W' : World) (hb : Below w.heap.size w W') => Reckon_calls gb 2 d0 a0 b0 v (by decide) P P va xa ya xn xc yn yc A B W' (hx.belowN hb) (hy.belowN hb) hQA hQB (.map (some gm)) (.int .i64 (n : Int)) (hbk.belowN hb) va L 0 hV hL hE)
  have HOF := hide (fun (W' : World) (hb : Below w.heap.size w W') (a9 : Option Addr) (n9 c9 : Nat) => Of_callsM gb va (.map (some gm)) n m hm hn6 a9 n9 c9 W' (hbk.belowN hb) va)
  have HOW := hide (fun (W' : World) (hb : Below w.heap.size w W') => hown.kept (grown_of_below hb none) (by simp))
  have HNM : Hid (n < maxLen) := by show _ < _; unfold maxLen; omega
  have HM := hide hm
  have HKEY := hide hkey
  obtain ⟨W1, hW1⟩ : ∃ W1, W1 = (((((w.alloc (.cells #[.int .i64 2, .int .i64 d0, .int .i64 a0, .int .i64 b0, .int .u64 (v.toNat : Int)] 89)).alloc (.cells #[.int .i64 va, .slice xa xn xc, .int .i64 xk] 162)).alloc (.cells #[.int .i64 va, .slice ya yn yc, .int .i64 yk] 162)).alloc (.cells #[.int .i64 0, .slice none 0 0, .int .i64 0] 162)).alloc (.cells #[.int .i64 2, .int .i64 xk, .int .i64 yk, .int .u64 (v.toNat : Int)] 206)) := ⟨_, rfl⟩
  obtain ⟨hX1, hX2, hX3, hX4, hX5, hb0, hz0⟩ := five_boxes w 89 162 162 162 206 #[.int .i64 2, .int .i64 d0, .int .i64 a0, .int .i64 b0, .int .u64 (v.toNat : Int)] #[.int .i64 va, .slice xa xn xc, .int .i64 xk] #[.int .i64 va, .slice ya yn yc, .int .i64 yk] #[.int .i64 0, .slice none 0 0, .int .i64 0] #[.int .i64 2, .int .i64 xk, .int .i64 yk, .int .u64 (v.toNat : Int)] W1 hW1
  have hbQ := hb0.trans ((below_box W1 (.cells #[.int .i64 0, .slice none 0 0, .int .i64 0] 162)).mono hb0.size)
  have hl1 := HL _ (Below.drew (Below.drew hb0))
  have hbR := Below.drew (Below.drew hbQ)
  have hl2 := HL _ hbR
  have hX4' := (hX4.alloc (.cells #[.int .i64 0, .slice none 0 0, .int .i64 0] 162)).belowN (Below.drew (Below.drew (Below.refl _ _)))
  have hX5' := (hX5.alloc (.cells #[.int .i64 0, .slice none 0 0, .int .i64 0] 162)).belowN (Below.drew (Below.drew (Below.refl _ _)))
  have hk1 := hbk.belowN hb0
  obtain ⟨k0, k1, k2, k3, k4, k5⟩ := hk1.c3
  obtain ⟨k6, k7, k8, k9, k10, k11⟩ := (hk1.alloc (.cells #[.int .i64 0, .slice none 0 0, .int .i64 0] 162)).c3
  rw [hW1] at hl1 hl2 k0 k1 k2 k6 k7 k8 hbR hX4' hX5'
  clear HL hown hkey hh hV hL hE hx hy hm
  go_enter Tryz.func86, Tryz.ntmps86
  go_wp2
  go_region
  go_wp2
  go_region
  all_goals go_wp2_with (first
    | (go_at_call 85; go_must (have hgd := hB10; (with_reducible refine (HOF.out _ hB10 _ _ _).mono ?_); rintro vv w11 ⟨rfl, hk11, hg11⟩; have hX11 := hX10.grown hg11 (by simp; omega); have hD11 := hD10.grown hg11 (by simp; omega); have hT11 := (hT9'.belowN (below_box w9 (.cells #[.int .i64 va, .slice a9 n9 c9] 42))).grown hg11 (fun g hg => by injection hg with hg; omega); have hm11 := (HOW.out _ hB10).kept hg11 (by intro h; injection h with h; exact hne h.symm)))
    | (go_at_call 129; go_must ((with_reducible refine (HRK.out _ hbR).mono ?_); rintro vv w9 ⟨a9, n9, c9, rfl, hT9, hb9⟩; have hB9 := hbR.trans (hb9.mono hbR.size); have hT9' := hT9.imp (Q := fun q => w.heap.size + 1 + 1 + 1 < q) (fun q hq => by have := hX4'.lt; omega); have hX9 : Blk w9 (w.heap.size + 1 + 1 + 1) 162 #[.int .i64 0, .slice none 0 0, .int .i64 0] := Blk.belowN hX4' hb9; have hD9 : Blk w9 (w.heap.size + 1 + 1 + 1 + 1) 206 #[.int .i64 2, .int .i64 xk, .int .i64 yk, .int .u64 (v.toNat : Int)] := Blk.belowN hX5' hb9; have hX10 := hX9.alloc (.cells #[.int .i64 va, .slice a9 n9 c9] 42); have hD10 := hD9.alloc (.cells #[.int .i64 va, .slice a9 n9 c9] 42); have hB10 := hB9.alloc hB9.size (.cells #[.int .i64 va, .slice a9 n9 c9] 42); have hN10 := Blk.new w9 42 #[.int .i64 va, .slice a9 n9 c9]; obtain ⟨y0, y1, y2, y3⟩ := hN10.c2)))
  all_goals
    have hS12 := Blk.new w11 162 #[.int .i64 va, .slice a9 n9 c9, .int .i64 (m : Int)]
    obtain ⟨s0, s1, s2, s3, s4, s5⟩ := hS12.c3
    obtain ⟨e0, e1, e2, e3, e4, e5, e6, e7⟩ := (hD11.alloc (.cells #[.int .i64 va, .slice a9 n9 c9, .int .i64 (m : Int)] 162)).c4
    obtain ⟨f0, f1, f2, f3, f4, f5⟩ := (hk11.alloc (.cells #[.int .i64 va, .slice a9 n9 c9, .int .i64 (m : Int)] 162)).c3
    have hdw := Below.drew (below_box w11 (.cells #[.int .i64 va, .slice a9 n9 c9, .int .i64 (m : Int)] 162))
    obtain ⟨w13, hup, hm13, hg13⟩ := (hm11.kept (grown_of_below hdw none) (by simp)).update lawD Tryz.underlying157 HNM.out HKEY.out (val := .agg #[.int .i64 va, .slice a9 n9 c9, .int .i64 (m : Int)]) (d := .held (.agg #[.int .i64 va, .slice a9 n9 c9, .int .i64 (m : Int)])) (ps := []) rfl
    have hz11 := hX11.lt
    have hX13 := (hX11.belowN hdw).grown hg13 (by simp; omega)
    have hS13 := (hS12.belowN (Below.drew (Below.refl _ _))).grown hg13 (by simp; omega)
    have hk13 := (hk11.belowN hdw).grown hg13 (by intro h; injection h with h; exact hne h)
    have hT13 := (hT11.belowN hdw).grown hg13 (fun g hg => by injection hg with hg; omega)
    obtain ⟨x0, x1, x2, x3, x4, x5⟩ := hX13.c3
    obtain ⟨t0, t1, t2, t3, t4, t5⟩ := hS13.c3
    rw [HM.out] at hm13
    have hq : w.heap.size + 1 + 1 + 1 ≠ w11.heap.size := by omega
    go_region
    go_wp2
  all_goals have hF := ((hX13.set_ 0 (.int .i64 va)).set_ 1 (.slice a9 n9 c9)).set_ 2 (.int .i64 (m : Int))
  all_goals refine bodyPost_ret (results_rowP rfl _ _ (w.heap.size + 1 + 1 + 1) _ #[.int .i64 va, .slice a9 n9 c9, .int .i64 (m : Int)] (0, 0) _ rfl hF Tryz.underlying162 rfl (by kernel_rfl)) rfl ?_
  all_goals
    have hs0 := grown_setCell w13 (w.heap.size + 1 + 1 + 1) 0 (.int .i64 va)
    have hs1 := grown_trans hs0 (grown_setCell _ (w.heap.size + 1 + 1 + 1) 1 (.slice a9 n9 c9))
    have hs2 := grown_trans hs1 (grown_setCell _ (w.heap.size + 1 + 1 + 1) 2 (.int .i64 (m : Int)))
    refine ⟨a9, n9, c9, rfl, (hT13.grown hs2 (fun g hg => by injection hg with hg; omega)).imp (fun q hq => by omega), hk13.grown hs2 (by simp; omega), hm13.kept hs2 (by simp; omega), ?_⟩
    exact (turned_two hB10 hg11 (grown_trans (grown_of_below hdw _) hg13)).trans (Turned.ofGrown (F := [w.heap.size + 1 + 1 + 1]) hs2 (fun k hk => .inl (by injection hk with hk; simp [hk]))) (fun k hk => .inr (by simp at hk; omega))
set_option maxRecDepth 100000 in
set_option maxHeartbeats 3200000 in
theorem Do_new3 (gb gm : Nat) (hne : gb ≠ gm) (d0 a0 b0 : Int) (v : UInt64) (xa ya : Option Addr) (xn xc yn yc : Nat) (xk yk : Int) (va : Int) (n m : Nat) (hm : n + 1 = m) (hn6 : n ≤ 100000000) (D : DataW Value) (w : World) (hbk : Blk w gb 159 #[.int .i64 va, .map (some gm), .int .i64 (n : Int)]) (hown : w.ownsMap Tryz.prog 206 heldR gm n D) (hgm : gm < w.heap.size) (kl : Lit)
    (hkey : keyOf Tryz.prog 206 (doneV 3 xk yk v) = some kl) (hh : has D kl = false) (P : Nat → Prop) (A B : List Tm) (hx : TOut P w xa xn xc A) (hy : TOut P w ya yn yc B) (hQA : checkP va A = true) (hQB : checkP va B = true)
    (L : List Tm) (hV : symV va 3 v A B = va) (hL : symL va 3 v A B = L) (hE : symE va 3 v A B = 0) :
    Calls Tryz.prog 86 #[.pointer (some ⟨gb, 0, none⟩), .agg #[.int .i64 3, .int .i64 d0, .int .i64 a0, .int .i64 b0, .int .u64 (v.toNat : Int)], .agg #[.int .i64 va, .slice xa xn xc, .int .i64 xk], .agg #[.int .i64 va, .slice ya yn yc, .int .i64 yk]] w (DoNew gb gm m va L D kl w) := by
  have hgb := hbk.lt
  have HL : ∀ W', Below w.heap.size w W' → (Instr.lookup 157 (.map (some gm)) (doneV 3 xk yk v) true).run Tryz.prog W' = .ok (.tuple #[st0, .bool false]) W' := fun W' hb => by
    have := book_look (hown.kept (grown_of_below hb none) (by simp)) hkey st0 (at_miss hh _)
    rw [hh] at this
    exact this
  have HRK := hide (fun (W' : World) (hb : Below w.heap.size w W') => Reckon_calls gb 3 d0 a0 b0 v (by decide) P P va xa ya xn xc yn yc A B W' (hx.belowN hb) (hy.belowN hb) hQA hQB (.map (some gm)) (.int .i64 (n : Int)) (hbk.belowN hb) va L 0 hV hL hE)
  have HOF := hide (fun (W' : World) (hb : Below w.heap.size w W') (a9 : Option Addr) (n9 c9 : Nat) => Of_callsM gb va (.map (some gm)) n m hm hn6 a9 n9 c9 W' (hbk.belowN hb) va)
  have HOW := hide (fun (W' : World) (hb : Below w.heap.size w W') => hown.kept (grown_of_below hb none) (by simp))
  have HNM : Hid (n < maxLen) := by show _ < _; unfold maxLen; omega
  have HM := hide hm
  have HKEY := hide hkey
  obtain ⟨W1, hW1⟩ : ∃ W1, W1 = (((((w.alloc (.cells #[.int .i64 3, .int .i64 d0, .int .i64 a0, .int .i64 b0, .int .u64 (v.toNat : Int)] 89)).alloc (.cells #[.int .i64 va, .slice xa xn xc, .int .i64 xk] 162)).alloc (.cells #[.int .i64 va, .slice ya yn yc, .int .i64 yk] 162)).alloc (.cells #[.int .i64 0, .slice none 0 0, .int .i64 0] 162)).alloc (.cells #[.int .i64 3, .int .i64 xk, .int .i64 yk, .int .u64 (v.toNat : Int)] 206)) := ⟨_, rfl⟩
  obtain ⟨hX1, hX2, hX3, hX4, hX5, hb0, hz0⟩ := five_boxes w 89 162 162 162 206 #[.int .i64 3, .int .i64 d0, .int .i64 a0, .int .i64 b0, .int .u64 (v.toNat : Int)] #[.int .i64 va, .slice xa xn xc, .int .i64 xk] #[.int .i64 va, .slice ya yn yc, .int .i64 yk] #[.int .i64 0, .slice none 0 0, .int .i64 0] #[.int .i64 3, .int .i64 xk, .int .i64 yk, .int .u64 (v.toNat : Int)] W1 hW1
  have hbQ := hb0.trans ((below_box W1 (.cells #[.int .i64 0, .slice none 0 0, .int .i64 0] 162)).mono hb0.size)
  have hl1 := HL _ (Below.drew (Below.drew hb0))
  have hbR := Below.drew (Below.drew hbQ)
  have hl2 := HL _ hbR
  have hX4' := (hX4.alloc (.cells #[.int .i64 0, .slice none 0 0, .int .i64 0] 162)).belowN (Below.drew (Below.drew (Below.refl _ _)))
  have hX5' := (hX5.alloc (.cells #[.int .i64 0, .slice none 0 0, .int .i64 0] 162)).belowN (Below.drew (Below.drew (Below.refl _ _)))
  have hk1 := hbk.belowN hb0
  obtain ⟨k0, k1, k2, k3, k4, k5⟩ := hk1.c3
  obtain ⟨k6, k7, k8, k9, k10, k11⟩ := (hk1.alloc (.cells #[.int .i64 0, .slice none 0 0, .int .i64 0] 162)).c3
  rw [hW1] at hl1 hl2 k0 k1 k2 k6 k7 k8 hbR hX4' hX5'
  clear HL hown hkey hh hV hL hE hx hy hm
  go_enter Tryz.func86, Tryz.ntmps86
  go_wp2
  go_region
  go_wp2
  go_region
  all_goals go_wp2_with (first
    | (go_at_call 85; go_must (have hgd := hB10; (with_reducible refine (HOF.out _ hB10 _ _ _).mono ?_); rintro vv w11 ⟨rfl, hk11, hg11⟩; have hX11 := hX10.grown hg11 (by simp; omega); have hD11 := hD10.grown hg11 (by simp; omega); have hT11 := (hT9'.belowN (below_box w9 (.cells #[.int .i64 va, .slice a9 n9 c9] 42))).grown hg11 (fun g hg => by injection hg with hg; omega); have hm11 := (HOW.out _ hB10).kept hg11 (by intro h; injection h with h; exact hne h.symm)))
    | (go_at_call 129; go_must ((with_reducible refine (HRK.out _ hbR).mono ?_); rintro vv w9 ⟨a9, n9, c9, rfl, hT9, hb9⟩; have hB9 := hbR.trans (hb9.mono hbR.size); have hT9' := hT9.imp (Q := fun q => w.heap.size + 1 + 1 + 1 < q) (fun q hq => by have := hX4'.lt; omega); have hX9 : Blk w9 (w.heap.size + 1 + 1 + 1) 162 #[.int .i64 0, .slice none 0 0, .int .i64 0] := Blk.belowN hX4' hb9; have hD9 : Blk w9 (w.heap.size + 1 + 1 + 1 + 1) 206 #[.int .i64 3, .int .i64 xk, .int .i64 yk, .int .u64 (v.toNat : Int)] := Blk.belowN hX5' hb9; have hX10 := hX9.alloc (.cells #[.int .i64 va, .slice a9 n9 c9] 42); have hD10 := hD9.alloc (.cells #[.int .i64 va, .slice a9 n9 c9] 42); have hB10 := hB9.alloc hB9.size (.cells #[.int .i64 va, .slice a9 n9 c9] 42); have hN10 := Blk.new w9 42 #[.int .i64 va, .slice a9 n9 c9]; obtain ⟨y0, y1, y2, y3⟩ := hN10.c2)))
  all_goals
    have hS12 := Blk.new w11 162 #[.int .i64 va, .slice a9 n9 c9, .int .i64 (m : Int)]
    obtain ⟨s0, s1, s2, s3, s4, s5⟩ := hS12.c3
    obtain ⟨e0, e1, e2, e3, e4, e5, e6, e7⟩ := (hD11.alloc (.cells #[.int .i64 va, .slice a9 n9 c9, .int .i64 (m : Int)] 162)).c4
    obtain ⟨f0, f1, f2, f3, f4, f5⟩ := (hk11.alloc (.cells #[.int .i64 va, .slice a9 n9 c9, .int .i64 (m : Int)] 162)).c3
    have hdw := Below.drew (below_box w11 (.cells #[.int .i64 va, .slice a9 n9 c9, .int .i64 (m : Int)] 162))
    obtain ⟨w13, hup, hm13, hg13⟩ := (hm11.kept (grown_of_below hdw none) (by simp)).update lawD Tryz.underlying157 HNM.out HKEY.out (val := .agg #[.int .i64 va, .slice a9 n9 c9, .int .i64 (m : Int)]) (d := .held (.agg #[.int .i64 va, .slice a9 n9 c9, .int .i64 (m : Int)])) (ps := []) rfl
    have hz11 := hX11.lt
    have hX13 := (hX11.belowN hdw).grown hg13 (by simp; omega)
    have hS13 := (hS12.belowN (Below.drew (Below.refl _ _))).grown hg13 (by simp; omega)
    have hk13 := (hk11.belowN hdw).grown hg13 (by intro h; injection h with h; exact hne h)
    have hT13 := (hT11.belowN hdw).grown hg13 (fun g hg => by injection hg with hg; omega)
    obtain ⟨x0, x1, x2, x3, x4, x5⟩ := hX13.c3
    obtain ⟨t0, t1, t2, t3, t4, t5⟩ := hS13.c3
    rw [HM.out] at hm13
    have hq : w.heap.size + 1 + 1 + 1 ≠ w11.heap.size := by omega
    go_region
    go_wp2
  all_goals have hF := ((hX13.set_ 0 (.int .i64 va)).set_ 1 (.slice a9 n9 c9)).set_ 2 (.int .i64 (m : Int))
  all_goals refine bodyPost_ret (results_rowP rfl _ _ (w.heap.size + 1 + 1 + 1) _ #[.int .i64 va, .slice a9 n9 c9, .int .i64 (m : Int)] (0, 0) _ rfl hF Tryz.underlying162 rfl (by kernel_rfl)) rfl ?_
  all_goals
    have hs0 := grown_setCell w13 (w.heap.size + 1 + 1 + 1) 0 (.int .i64 va)
    have hs1 := grown_trans hs0 (grown_setCell _ (w.heap.size + 1 + 1 + 1) 1 (.slice a9 n9 c9))
    have hs2 := grown_trans hs1 (grown_setCell _ (w.heap.size + 1 + 1 + 1) 2 (.int .i64 (m : Int)))
    refine ⟨a9, n9, c9, rfl, (hT13.grown hs2 (fun g hg => by injection hg with hg; omega)).imp (fun q hq => by omega), hk13.grown hs2 (by simp; omega), hm13.kept hs2 (by simp; omega), ?_⟩
    exact (turned_two hB10 hg11 (grown_trans (grown_of_below hdw _) hg13)).trans (Turned.ofGrown (F := [w.heap.size + 1 + 1 + 1]) hs2 (fun k hk => .inl (by injection hk with hk; simp [hk]))) (fun k hk => .inr (by simp at hk; omega))
set_option maxRecDepth 100000 in
set_option maxHeartbeats 3200000 in
theorem Do_new4 (gb gm : Nat) (hne : gb ≠ gm) (d0 a0 b0 : Int) (v : UInt64) (xa ya : Option Addr) (xn xc yn yc : Nat) (xk yk : Int) (va : Int) (n m : Nat) (hm : n + 1 = m) (hn6 : n ≤ 100000000) (D : DataW Value) (w : World) (hbk : Blk w gb 159 #[.int .i64 va, .map (some gm), .int .i64 (n : Int)]) (hown : w.ownsMap Tryz.prog 206 heldR gm n D) (hgm : gm < w.heap.size) (kl : Lit)
    (hkey : keyOf Tryz.prog 206 (doneV 4 xk 0 v) = some kl) (hh : has D kl = false) (P : Nat → Prop) (A B : List Tm) (hx : TOut P w xa xn xc A) (hy : TOut P w ya yn yc B) (hQA : checkP va A = true) (hQB : checkP va B = true)
    (L : List Tm) (hV : symV va 4 v A B = va) (hL : symL va 4 v A B = L) (hE : symE va 4 v A B = 0) :
    Calls Tryz.prog 86 #[.pointer (some ⟨gb, 0, none⟩), .agg #[.int .i64 4, .int .i64 d0, .int .i64 a0, .int .i64 b0, .int .u64 (v.toNat : Int)], .agg #[.int .i64 va, .slice xa xn xc, .int .i64 xk], .agg #[.int .i64 va, .slice ya yn yc, .int .i64 yk]] w (DoNew gb gm m va L D kl w) := by
  have hgb := hbk.lt
  have HL : ∀ W', Below w.heap.size w W' → (Instr.lookup 157 (.map (some gm)) (doneV 4 xk 0 v) true).run Tryz.prog W' = .ok (.tuple #[st0, .bool false]) W' := fun W' hb => by
    have := book_look (hown.kept (grown_of_below hb none) (by simp)) hkey st0 (at_miss hh _)
    rw [hh] at this
    exact this
  have HRK := hide (fun (W' : World) (hb : Below w.heap.size w W') => Reckon_calls gb 4 d0 a0 b0 v (by decide) P P va xa ya xn xc yn yc A B W' (hx.belowN hb) (hy.belowN hb) hQA hQB (.map (some gm)) (.int .i64 (n : Int)) (hbk.belowN hb) va L 0 hV hL hE)
  have HOF := hide (fun (W' : World) (hb : Below w.heap.size w W') (a9 : Option Addr) (n9 c9 : Nat) => Of_callsM gb va (.map (some gm)) n m hm hn6 a9 n9 c9 W' (hbk.belowN hb) va)
  have HOW := hide (fun (W' : World) (hb : Below w.heap.size w W') => hown.kept (grown_of_below hb none) (by simp))
  have HNM : Hid (n < maxLen) := by show _ < _; unfold maxLen; omega
  have HM := hide hm
  have HKEY := hide hkey
  obtain ⟨W1, hW1⟩ : ∃ W1, W1 = (((((w.alloc (.cells #[.int .i64 4, .int .i64 d0, .int .i64 a0, .int .i64 b0, .int .u64 (v.toNat : Int)] 89)).alloc (.cells #[.int .i64 va, .slice xa xn xc, .int .i64 xk] 162)).alloc (.cells #[.int .i64 va, .slice ya yn yc, .int .i64 yk] 162)).alloc (.cells #[.int .i64 0, .slice none 0 0, .int .i64 0] 162)).alloc (.cells #[.int .i64 4, .int .i64 xk, .int .i64 0, .int .u64 (v.toNat : Int)] 206)) := ⟨_, rfl⟩
  obtain ⟨hX1, hX2, hX3, hX4, hX5, hb0, hz0⟩ := five_boxes w 89 162 162 162 206 #[.int .i64 4, .int .i64 d0, .int .i64 a0, .int .i64 b0, .int .u64 (v.toNat : Int)] #[.int .i64 va, .slice xa xn xc, .int .i64 xk] #[.int .i64 va, .slice ya yn yc, .int .i64 yk] #[.int .i64 0, .slice none 0 0, .int .i64 0] #[.int .i64 4, .int .i64 xk, .int .i64 0, .int .u64 (v.toNat : Int)] W1 hW1
  have hbQ := hb0.trans ((below_box W1 (.cells #[.int .i64 0, .slice none 0 0, .int .i64 0] 162)).mono hb0.size)
  have hl1 := HL _ (Below.drew hb0)
  have hbR := Below.drew hbQ
  have hl2 := HL _ hbR
  have hX4' := (hX4.alloc (.cells #[.int .i64 0, .slice none 0 0, .int .i64 0] 162)).belowN (Below.drew (Below.refl _ _))
  have hX5' := (hX5.alloc (.cells #[.int .i64 0, .slice none 0 0, .int .i64 0] 162)).belowN (Below.drew (Below.refl _ _))
  have hk1 := hbk.belowN hb0
  obtain ⟨k0, k1, k2, k3, k4, k5⟩ := hk1.c3
  obtain ⟨k6, k7, k8, k9, k10, k11⟩ := (hk1.alloc (.cells #[.int .i64 0, .slice none 0 0, .int .i64 0] 162)).c3
  rw [hW1] at hl1 hl2 k0 k1 k2 k6 k7 k8 hbR hX4' hX5'
  clear HL hown hkey hh hV hL hE hx hy hm
  go_enter Tryz.func86, Tryz.ntmps86
  go_wp2
  go_region
  all_goals go_wp2_with (first
    | (go_at_call 85; go_must (have hgd := hB10; (with_reducible refine (HOF.out _ hB10 _ _ _).mono ?_); rintro vv w11 ⟨rfl, hk11, hg11⟩; have hX11 := hX10.grown hg11 (by simp; omega); have hD11 := hD10.grown hg11 (by simp; omega); have hT11 := (hT9'.belowN (below_box w9 (.cells #[.int .i64 va, .slice a9 n9 c9] 42))).grown hg11 (fun g hg => by injection hg with hg; omega); have hm11 := (HOW.out _ hB10).kept hg11 (by intro h; injection h with h; exact hne h.symm)))
    | (go_at_call 129; go_must ((with_reducible refine (HRK.out _ hbR).mono ?_); rintro vv w9 ⟨a9, n9, c9, rfl, hT9, hb9⟩; have hB9 := hbR.trans (hb9.mono hbR.size); have hT9' := hT9.imp (Q := fun q => w.heap.size + 1 + 1 + 1 < q) (fun q hq => by have := hX4'.lt; omega); have hX9 : Blk w9 (w.heap.size + 1 + 1 + 1) 162 #[.int .i64 0, .slice none 0 0, .int .i64 0] := Blk.belowN hX4' hb9; have hD9 : Blk w9 (w.heap.size + 1 + 1 + 1 + 1) 206 #[.int .i64 4, .int .i64 xk, .int .i64 0, .int .u64 (v.toNat : Int)] := Blk.belowN hX5' hb9; have hX10 := hX9.alloc (.cells #[.int .i64 va, .slice a9 n9 c9] 42); have hD10 := hD9.alloc (.cells #[.int .i64 va, .slice a9 n9 c9] 42); have hB10 := hB9.alloc hB9.size (.cells #[.int .i64 va, .slice a9 n9 c9] 42); have hN10 := Blk.new w9 42 #[.int .i64 va, .slice a9 n9 c9]; obtain ⟨y0, y1, y2, y3⟩ := hN10.c2)))
  all_goals
    have hS12 := Blk.new w11 162 #[.int .i64 va, .slice a9 n9 c9, .int .i64 (m : Int)]
    obtain ⟨s0, s1, s2, s3, s4, s5⟩ := hS12.c3
    obtain ⟨e0, e1, e2, e3, e4, e5, e6, e7⟩ := (hD11.alloc (.cells #[.int .i64 va, .slice a9 n9 c9, .int .i64 (m : Int)] 162)).c4
    obtain ⟨f0, f1, f2, f3, f4, f5⟩ := (hk11.alloc (.cells #[.int .i64 va, .slice a9 n9 c9, .int .i64 (m : Int)] 162)).c3
    have hdw := Below.drew (below_box w11 (.cells #[.int .i64 va, .slice a9 n9 c9, .int .i64 (m : Int)] 162))
    obtain ⟨w13, hup, hm13, hg13⟩ := (hm11.kept (grown_of_below hdw none) (by simp)).update lawD Tryz.underlying157 HNM.out HKEY.out (val := .agg #[.int .i64 va, .slice a9 n9 c9, .int .i64 (m : Int)]) (d := .held (.agg #[.int .i64 va, .slice a9 n9 c9, .int .i64 (m : Int)])) (ps := []) rfl
    have hz11 := hX11.lt
    have hX13 := (hX11.belowN hdw).grown hg13 (by simp; omega)
    have hS13 := (hS12.belowN (Below.drew (Below.refl _ _))).grown hg13 (by simp; omega)
    have hk13 := (hk11.belowN hdw).grown hg13 (by intro h; injection h with h; exact hne h)
    have hT13 := (hT11.belowN hdw).grown hg13 (fun g hg => by injection hg with hg; omega)
    obtain ⟨x0, x1, x2, x3, x4, x5⟩ := hX13.c3
    obtain ⟨t0, t1, t2, t3, t4, t5⟩ := hS13.c3
    rw [HM.out] at hm13
    have hq : w.heap.size + 1 + 1 + 1 ≠ w11.heap.size := by omega
    go_region
    go_wp2
  all_goals have hF := ((hX13.set_ 0 (.int .i64 va)).set_ 1 (.slice a9 n9 c9)).set_ 2 (.int .i64 (m : Int))
  all_goals refine bodyPost_ret (results_rowP rfl _ _ (w.heap.size + 1 + 1 + 1) _ #[.int .i64 va, .slice a9 n9 c9, .int .i64 (m : Int)] (0, 0) _ rfl hF Tryz.underlying162 rfl (by kernel_rfl)) rfl ?_
  all_goals
    have hs0 := grown_setCell w13 (w.heap.size + 1 + 1 + 1) 0 (.int .i64 va)
    have hs1 := grown_trans hs0 (grown_setCell _ (w.heap.size + 1 + 1 + 1) 1 (.slice a9 n9 c9))
    have hs2 := grown_trans hs1 (grown_setCell _ (w.heap.size + 1 + 1 + 1) 2 (.int .i64 (m : Int)))
    refine ⟨a9, n9, c9, rfl, (hT13.grown hs2 (fun g hg => by injection hg with hg; omega)).imp (fun q hq => by omega), hk13.grown hs2 (by simp; omega), hm13.kept hs2 (by simp; omega), ?_⟩
    exact (turned_two hB10 hg11 (grown_trans (grown_of_below hdw _) hg13)).trans (Turned.ofGrown (F := [w.heap.size + 1 + 1 + 1]) hs2 (fun k hk => .inl (by injection hk with hk; simp [hk]))) (fun k hk => .inr (by simp at hk; omega))
set_option maxRecDepth 100000 in
set_option maxHeartbeats 3200000 in
theorem Do_new5 (gb gm : Nat) (hne : gb ≠ gm) (d0 a0 b0 : Int) (v : UInt64) (xa ya : Option Addr) (xn xc yn yc : Nat) (xk yk : Int) (va : Int) (n m : Nat) (hm : n + 1 = m) (hn6 : n ≤ 100000000) (D : DataW Value) (w : World) (hbk : Blk w gb 159 #[.int .i64 va, .map (some gm), .int .i64 (n : Int)]) (hown : w.ownsMap Tryz.prog 206 heldR gm n D) (hgm : gm < w.heap.size) (kl : Lit)
    (hkey : keyOf Tryz.prog 206 (doneV 5 0 0 v) = some kl) (hh : has D kl = false) (P : Nat → Prop) (A B : List Tm) (hx : TOut P w xa xn xc A) (hy : TOut P w ya yn yc B) (hQA : checkP va A = true) (hQB : checkP va B = true)
    (L : List Tm) (hV : symV va 5 v A B = va) (hL : symL va 5 v A B = L) (hE : symE va 5 v A B = 0) :
    Calls Tryz.prog 86 #[.pointer (some ⟨gb, 0, none⟩), .agg #[.int .i64 5, .int .i64 d0, .int .i64 a0, .int .i64 b0, .int .u64 (v.toNat : Int)], .agg #[.int .i64 va, .slice xa xn xc, .int .i64 xk], .agg #[.int .i64 va, .slice ya yn yc, .int .i64 yk]] w (DoNew gb gm m va L D kl w) := by
  have hgb := hbk.lt
  have HL : ∀ W', Below w.heap.size w W' → (Instr.lookup 157 (.map (some gm)) (doneV 5 0 0 v) true).run Tryz.prog W' = .ok (.tuple #[st0, .bool false]) W' := fun W' hb => by
    have := book_look (hown.kept (grown_of_below hb none) (by simp)) hkey st0 (at_miss hh _)
    rw [hh] at this
    exact this
  have HRK := hide (fun (W' : World) (hb : Below w.heap.size w W') => Reckon_calls gb 5 d0 a0 b0 v (by decide) P P va xa ya xn xc yn yc A B W' (hx.belowN hb) (hy.belowN hb) hQA hQB (.map (some gm)) (.int .i64 (n : Int)) (hbk.belowN hb) va L 0 hV hL hE)
  have HOF := hide (fun (W' : World) (hb : Below w.heap.size w W') (a9 : Option Addr) (n9 c9 : Nat) => Of_callsM gb va (.map (some gm)) n m hm hn6 a9 n9 c9 W' (hbk.belowN hb) va)
  have HOW := hide (fun (W' : World) (hb : Below w.heap.size w W') => hown.kept (grown_of_below hb none) (by simp))
  have HNM : Hid (n < maxLen) := by show _ < _; unfold maxLen; omega
  have HM := hide hm
  have HKEY := hide hkey
  obtain ⟨W1, hW1⟩ : ∃ W1, W1 = (((((w.alloc (.cells #[.int .i64 5, .int .i64 d0, .int .i64 a0, .int .i64 b0, .int .u64 (v.toNat : Int)] 89)).alloc (.cells #[.int .i64 va, .slice xa xn xc, .int .i64 xk] 162)).alloc (.cells #[.int .i64 va, .slice ya yn yc, .int .i64 yk] 162)).alloc (.cells #[.int .i64 0, .slice none 0 0, .int .i64 0] 162)).alloc (.cells #[.int .i64 5, .int .i64 0, .int .i64 0, .int .u64 (v.toNat : Int)] 206)) := ⟨_, rfl⟩
  obtain ⟨hX1, hX2, hX3, hX4, hX5, hb0, hz0⟩ := five_boxes w 89 162 162 162 206 #[.int .i64 5, .int .i64 d0, .int .i64 a0, .int .i64 b0, .int .u64 (v.toNat : Int)] #[.int .i64 va, .slice xa xn xc, .int .i64 xk] #[.int .i64 va, .slice ya yn yc, .int .i64 yk] #[.int .i64 0, .slice none 0 0, .int .i64 0] #[.int .i64 5, .int .i64 0, .int .i64 0, .int .u64 (v.toNat : Int)] W1 hW1
  have hbQ := hb0.trans ((below_box W1 (.cells #[.int .i64 0, .slice none 0 0, .int .i64 0] 162)).mono hb0.size)
  have hl1 := HL _ (Below.drew hb0)
  have hbR := Below.drew hbQ
  have hl2 := HL _ hbR
  have hX4' := (hX4.alloc (.cells #[.int .i64 0, .slice none 0 0, .int .i64 0] 162)).belowN (Below.drew (Below.refl _ _))
  have hX5' := (hX5.alloc (.cells #[.int .i64 0, .slice none 0 0, .int .i64 0] 162)).belowN (Below.drew (Below.refl _ _))
  have hk1 := hbk.belowN hb0
  obtain ⟨k0, k1, k2, k3, k4, k5⟩ := hk1.c3
  obtain ⟨k6, k7, k8, k9, k10, k11⟩ := (hk1.alloc (.cells #[.int .i64 0, .slice none 0 0, .int .i64 0] 162)).c3
  rw [hW1] at hl1 hl2 k0 k1 k2 k6 k7 k8 hbR hX4' hX5'
  clear HL hown hkey hh hV hL hE hx hy hm
  go_enter Tryz.func86, Tryz.ntmps86
  go_wp2
  go_region
  all_goals go_wp2_with (first
    | (go_at_call 85; go_must (have hgd := hB10; (with_reducible refine (HOF.out _ hB10 _ _ _).mono ?_); rintro vv w11 ⟨rfl, hk11, hg11⟩; have hX11 := hX10.grown hg11 (by simp; omega); have hD11 := hD10.grown hg11 (by simp; omega); have hT11 := (hT9'.belowN (below_box w9 (.cells #[.int .i64 va, .slice a9 n9 c9] 42))).grown hg11 (fun g hg => by injection hg with hg; omega); have hm11 := (HOW.out _ hB10).kept hg11 (by intro h; injection h with h; exact hne h.symm)))
    | (go_at_call 129; go_must ((with_reducible refine (HRK.out _ hbR).mono ?_); rintro vv w9 ⟨a9, n9, c9, rfl, hT9, hb9⟩; have hB9 := hbR.trans (hb9.mono hbR.size); have hT9' := hT9.imp (Q := fun q => w.heap.size + 1 + 1 + 1 < q) (fun q hq => by have := hX4'.lt; omega); have hX9 : Blk w9 (w.heap.size + 1 + 1 + 1) 162 #[.int .i64 0, .slice none 0 0, .int .i64 0] := Blk.belowN hX4' hb9; have hD9 : Blk w9 (w.heap.size + 1 + 1 + 1 + 1) 206 #[.int .i64 5, .int .i64 0, .int .i64 0, .int .u64 (v.toNat : Int)] := Blk.belowN hX5' hb9; have hX10 := hX9.alloc (.cells #[.int .i64 va, .slice a9 n9 c9] 42); have hD10 := hD9.alloc (.cells #[.int .i64 va, .slice a9 n9 c9] 42); have hB10 := hB9.alloc hB9.size (.cells #[.int .i64 va, .slice a9 n9 c9] 42); have hN10 := Blk.new w9 42 #[.int .i64 va, .slice a9 n9 c9]; obtain ⟨y0, y1, y2, y3⟩ := hN10.c2)))
  all_goals
    have hS12 := Blk.new w11 162 #[.int .i64 va, .slice a9 n9 c9, .int .i64 (m : Int)]
    obtain ⟨s0, s1, s2, s3, s4, s5⟩ := hS12.c3
    obtain ⟨e0, e1, e2, e3, e4, e5, e6, e7⟩ := (hD11.alloc (.cells #[.int .i64 va, .slice a9 n9 c9, .int .i64 (m : Int)] 162)).c4
    obtain ⟨f0, f1, f2, f3, f4, f5⟩ := (hk11.alloc (.cells #[.int .i64 va, .slice a9 n9 c9, .int .i64 (m : Int)] 162)).c3
    have hdw := Below.drew (below_box w11 (.cells #[.int .i64 va, .slice a9 n9 c9, .int .i64 (m : Int)] 162))
    obtain ⟨w13, hup, hm13, hg13⟩ := (hm11.kept (grown_of_below hdw none) (by simp)).update lawD Tryz.underlying157 HNM.out HKEY.out (val := .agg #[.int .i64 va, .slice a9 n9 c9, .int .i64 (m : Int)]) (d := .held (.agg #[.int .i64 va, .slice a9 n9 c9, .int .i64 (m : Int)])) (ps := []) rfl
    have hz11 := hX11.lt
    have hX13 := (hX11.belowN hdw).grown hg13 (by simp; omega)
    have hS13 := (hS12.belowN (Below.drew (Below.refl _ _))).grown hg13 (by simp; omega)
    have hk13 := (hk11.belowN hdw).grown hg13 (by intro h; injection h with h; exact hne h)
    have hT13 := (hT11.belowN hdw).grown hg13 (fun g hg => by injection hg with hg; omega)
    obtain ⟨x0, x1, x2, x3, x4, x5⟩ := hX13.c3
    obtain ⟨t0, t1, t2, t3, t4, t5⟩ := hS13.c3
    rw [HM.out] at hm13
    have hq : w.heap.size + 1 + 1 + 1 ≠ w11.heap.size := by omega
    go_region
    go_wp2
  all_goals have hF := ((hX13.set_ 0 (.int .i64 va)).set_ 1 (.slice a9 n9 c9)).set_ 2 (.int .i64 (m : Int))
  all_goals refine bodyPost_ret (results_rowP rfl _ _ (w.heap.size + 1 + 1 + 1) _ #[.int .i64 va, .slice a9 n9 c9, .int .i64 (m : Int)] (0, 0) _ rfl hF Tryz.underlying162 rfl (by kernel_rfl)) rfl ?_
  all_goals
    have hs0 := grown_setCell w13 (w.heap.size + 1 + 1 + 1) 0 (.int .i64 va)
    have hs1 := grown_trans hs0 (grown_setCell _ (w.heap.size + 1 + 1 + 1) 1 (.slice a9 n9 c9))
    have hs2 := grown_trans hs1 (grown_setCell _ (w.heap.size + 1 + 1 + 1) 2 (.int .i64 (m : Int)))
    refine ⟨a9, n9, c9, rfl, (hT13.grown hs2 (fun g hg => by injection hg with hg; omega)).imp (fun q hq => by omega), hk13.grown hs2 (by simp; omega), hm13.kept hs2 (by simp; omega), ?_⟩
    exact (turned_two hB10 hg11 (grown_trans (grown_of_below hdw _) hg13)).trans (Turned.ofGrown (F := [w.heap.size + 1 + 1 + 1]) hs2 (fun k hk => .inl (by injection hk with hk; simp [hk]))) (fun k hk => .inr (by simp at hk; omega))
end Go.Proofs.YtcamcnahkdiefaaGreat

/- symbol.do, whatever the operation and whether its state is known or not. -/
namespace Go.Proofs.YtcamcnahkdiefaaGreat
set_option linter.unusedVariables false
set_option linter.unusedSimpArgs false
open Go.RowKit Go.Maps
theorem AtTP.turned {P : Nat → Prop} {F : List Nat} {w w' : World} {a : Option Addr} {ts : List Tm} (h : AtTP P w a ts) (hT : Turned F w w') (hF : ∀ g ∈ F, ¬ P g) : AtTP P w' a ts := by
  obtain ⟨hs, h1, h2, h3, h4, h5⟩ := h
  refine ⟨hs, h1.turned hT (fun hne g hg e => ?_), h2, fun j y t e1 e2 => ?_, h4, h5⟩
  · have htn : ts ≠ [] := by rintro rfl; exact hne (List.eq_nil_of_length_eq_zero h2)
    exact hF g hg (h4 htn g e)
  · obtain ⟨k1, k2, k3, k4, k5⟩ := h3 j y t e1 e2
    exact ⟨k1, k2, k3, k4, k5.turned hT (fun hne g hg e => hF g hg (h5 j y t e1 e2 hne g e))⟩
theorem TOut.turned {P : Nat → Prop} {F : List Nat} {w w' : World} {a : Option Addr} {n c : Nat} {M : List Tm} (h : TOut P w a n c M) (hT : Turned F w w') (hF : ∀ g ∈ F, ¬ P g) : TOut P w' a n c M := ⟨h.len, h.cap, h.max, h.at_.turned hT hF⟩
theorem StOk.turned {P : Nat → Prop} {F : List Nat} {w w' : World} {va : Int} {PL : List (List Tm)} {y : StH} {L : List Tm} (h : StOk P w va PL y L) (hT : Turned F w w') (hF : ∀ g ∈ F, ¬ P g) : StOk P w' va PL y L := ⟨h.v, h.t.turned hT hF, h.k1, h.k2⟩
theorem Known.turned {P : Nat → Prop} {F : List Nat} {w w' : World} {va : Int} {PL : List (List Tm)} {D : DataW Value} (h : Known P w va PL D) (hT : Turned F w w') (hF : ∀ g ∈ F, ¬ P g) : Known P w' va PL D := fun k a b v kl h1 h2 => by
  obtain ⟨y, L, A, B, e1, e2, e3, e4, e5, e6⟩ := h k a b v kl h1 h2
  exact ⟨y, L, A, B, e1, e2.turned hT hF, e3, e4, e5, e6⟩
theorem BookM.belowN {P : Nat → Prop} {w w' : World} {gb gm : Nat} {va : Int} {PL : List (List Tm)} {D : DataW Value} (h : BookM P w gb gm va PL D) (hb : Below w.heap.size w w') : BookM P w' gb gm va PL D :=
  ⟨h.blk.belowN hb, h.map.kept (grown_of_below hb none) (by simp), h.known.grown (grown_of_below hb none) (by simp)⟩
theorem BookM.grown {P : Nat → Prop} {w w' : World} {gb gm : Nat} {va : Int} {PL : List (List Tm)} {D : DataW Value} {g : Nat} (h : BookM P w gb gm va PL D) (hb : w.grownBy w' (some g)) (h1 : g ≠ gb) (h2 : g ≠ gm) (h3 : ¬ P g) : BookM P w' gb gm va PL D :=
  ⟨h.blk.grown hb (by simp; exact fun e => h1 e.symm), h.map.kept hb (by simp; exact fun e => h2 e.symm), h.known.grown hb (fun q hq => by injection hq with hq; subst hq; exact h3)⟩
theorem map_lt {w : World} {gm n : Nat} {D : DataW Value} (h : w.ownsMap Tryz.prog 206 heldR gm n D) : gm < w.heap.size := by
  obtain ⟨es, clock, hb, _⟩ := h
  exact (Array.getElem?_eq_some_iff.1 hb).1
theorem wf_i64 {n : Int} (h0 : 0 ≤ n) (h : n ≤ 1000000000) : (Lit.int .i64 n).wf = true := WalkArith.wf_i64 (by omega)
/-- what stands behind an operation -/
def DoneAs (P : Nat → Prop) (gb gm : Nat) (va : Int) (PL : List (List Tm)) (E : Int) (L : List Tm) (w : World) (e : Ending) (w' : World) : Prop :=
  ∃ z : StH, e = .returned (.tuple #[stV z, .int .i64 E]) ∧ Turned [gb, gm] w w' ∧ (E = 0 → ∃ (ext : List (List Tm)) (D' : DataW Value), StOk P w' va (PL ++ ext) z L ∧ BookM P w' gb gm va (PL ++ ext) D' ∧ ext.length ≤ 1)
theorem StOk.kle {P : Nat → Prop} {w : World} {va : Int} {PL : List (List Tm)} {y : StH} {L : List Tm} (h : StOk P w va PL y L) : y.k ≤ PL.length := by
  have := (List.getElem?_eq_some_iff.1 h.k2).1
  have := h.k1
  omega
theorem hit_as {P : Nat → Prop} {gb gm : Nat} {va : Int} {PL : List (List Tm)} {D : DataW Value} {w : World} (hB : BookM P w gb gm va PL D) {z : StH} {L : List Tm} {E : Int} (hE : E = 0) (hz : StOk P w va PL z L) (e : Ending) (w' : World) (h : e = .returned (.tuple #[stV z, .int .i64 0]) ∧ Below w.heap.size w w') :
    DoneAs P gb gm va PL E L w e w' := by
  obtain ⟨rfl, hb⟩ := h
  subst hE
  exact ⟨z, rfl, Turned.ofBelow hb, fun _ => ⟨[], D, by rw [List.append_nil]; exact hz.belowN hb, by rw [List.append_nil]; exact hB.belowN hb, by simp⟩⟩
theorem miss_as {P : Nat → Prop} {gb gm : Nat} {va : Int} {PL : List (List Tm)} {w : World} {L : List Tm} {E : Int} (hE : E ≠ 0) (e : Ending) (w' : World) (h : e = .returned (.tuple #[st0, .int .i64 E]) ∧ Below w.heap.size w w') :
    DoneAs P gb gm va PL E L w e w' := by
  obtain ⟨rfl, hb⟩ := h
  exact ⟨⟨0, none, 0, 0, 0⟩, rfl, Turned.ofBelow hb, fun h => absurd h hE⟩
theorem new_as {P : Nat → Prop} {gb gm : Nat} {va : Int} {PL : List (List Tm)} {D : DataW Value} {w : World} (hB : BookM P w gb gm va PL D) (hP : ∀ q, w.heap.size ≤ q → P q) (hPb : ¬ P gb) (hPm : ¬ P gm) {k a b : Int} {v : UInt64} {kl : Lit} (hkey : keyOf Tryz.prog 206 (doneV k a b v) = some kl) {A B L : List Tm} {E : Int} (h0 : E = 0)
    (hA : k ≤ 4 → PL[(a - 1).toNat]? = some A) (hBB : k ≤ 3 → PL[(b - 1).toNat]? = some B) (hE : symE va k v A B = 0) (hL : symL va k v A B = L) (e : Ending) (w' : World) (h : DoNew gb gm (PL.length + 1) va L D kl w e w') : DoneAs P gb gm va PL E L w e w' := by
  obtain ⟨a9, n9, c9, rfl, hT, hbk, hmp, hTu⟩ := h
  subst h0
  have hF : ∀ g ∈ [gb, gm], ¬ P g := fun g hg => by simp at hg; rcases hg with rfl | rfl <;> assumption
  have hSt : StOk P w' va (PL ++ [L]) ⟨va, a9, n9, c9, ((PL.length + 1 : Nat) : Int)⟩ L := ⟨rfl, hT.imp hP, by simp; omega, by simp⟩
  refine ⟨⟨va, a9, n9, c9, ((PL.length + 1 : Nat) : Int)⟩, rfl, hTu, fun _ => ⟨[L], D.put kl (.held (stV ⟨va, a9, n9, c9, ((PL.length + 1 : Nat) : Int)⟩)), hSt, ⟨?_, ?_, ?_⟩, by simp⟩⟩
  · rw [List.length_append]; exact hbk
  · rw [List.length_append]; exact hmp
  · exact ((hB.known.turned hTu hF).more [L]).put hB.map.isMap hkey hSt (fun hk => getE_app (hA hk)) (fun hk => getE_app (hBB hk)) hE hL
set_option maxRecDepth 100000 in
set_option maxHeartbeats 1600000 in
theorem Do_calls (gb gm : Nat) (hne : gb ≠ gm) (k d0 a0 b0 : Int) (v : UInt64) (hk : 1 ≤ k ∧ k ≤ 6) (P : Nat → Prop) (va : Int) (PL : List (List Tm)) (hPL : PL.length ≤ 100000000) (D : DataW Value) (x y : StH) (A B : List Tm) (w : World)
    (hB : BookM P w gb gm va PL D) (hP : ∀ q, w.heap.size ≤ q → P q) (hPb : ¬ P gb) (hPm : ¬ P gm) (hx : StOk P w va PL x A) (hy : StOk P w va PL y B) (hQA : checkP va A = true) (hQB : checkP va B = true)
    (L : List Tm) (E : Int) (hL : symL va k v A B = L) (hE : symE va k v A B = E) :
    Calls Tryz.prog 86 #[.pointer (some ⟨gb, 0, none⟩), .agg #[.int .i64 k, .int .i64 d0, .int .i64 a0, .int .i64 b0, .int .u64 (v.toNat : Int)], stV x, stV y] w (DoneAs P gb gm va PL E L w) := by
  have x1 := hx.k1
  have x2 := hx.kle
  have y1 := hy.k1
  have y2 := hy.kle
  have wx := wf_i64 (n := x.k) (by omega) (by omega)
  have wy := wf_i64 (n := y.k) (by omega) (by omega)
  have w0 : (Lit.int .i64 0).wf = true := by decide
  have xv : stV x = .agg #[.int .i64 va, .slice x.a x.n x.c, .int .i64 x.k] := by rw [← hx.v]
  have yv : stV y = .agg #[.int .i64 va, .slice y.a y.n y.c, .int .i64 y.k] := by rw [← hy.v]
  have hgm := map_lt hB.map
  have hV : E = 0 → symV va k v A B = va := fun h => (sym_fine hQA (hE.trans h)).1
  have hc : k = 1 ∨ k = 2 ∨ k = 3 ∨ k = 4 ∨ k = 5 ∨ k = 6 := by omega
  rcases hc with rfl | rfl | rfl | rfl | rfl | rfl
  · obtain ⟨kl, hkey⟩ := keyD 1 x.k y.k v (by decide) wx wy
    by_cases hh : has D kl = true
    · obtain ⟨z, L', e1, e2, e3, e4⟩ := hB.known.hit hkey hh (by decide) (fun _ => hx.k2) (fun _ => hy.k2)
      refine (Do_hit1 gb gm d0 a0 b0 v x y z va _ D w _ hB.blk hB.map kl hkey hh (e1 _)).mono fun e w' h => ?_
      have e5 : L' = L := e4.symm.trans hL
      subst e5
      exact hit_as hB (hE.symm.trans e3) e2 e w' h
    · have hh' : has D kl = false := by simpa using hh
      by_cases h0 : E = 0
      · rw [xv, yv]
        exact (Do_new1 gb gm hne d0 a0 b0 v x.a y.a x.n x.c y.n y.c x.k y.k va _ _ rfl hPL D w hB.blk hB.map hgm kl hkey hh' P A B hx.t hy.t hQA hQB L (hV h0) hL (hE.trans h0)).mono fun e w' h => new_as hB hP hPb hPm hkey h0 (fun _ => hx.k2) (fun _ => hy.k2) (hE.trans h0) hL e w' h
      · rw [xv, yv]
        exact (Do_miss1 gb gm d0 a0 b0 v x.a y.a x.n x.c y.n y.c x.k y.k va _ D w _ hB.blk hB.map kl hkey hh' P A B hx.t hy.t hQA hQB _ L E rfl hL hE h0).mono fun e w' h => miss_as h0 e w' h
  · obtain ⟨kl, hkey⟩ := keyD 2 x.k y.k v (by decide) wx wy
    by_cases hh : has D kl = true
    · obtain ⟨z, L', e1, e2, e3, e4⟩ := hB.known.hit hkey hh (by decide) (fun _ => hx.k2) (fun _ => hy.k2)
      refine (Do_hit2 gb gm d0 a0 b0 v x y z va _ D w _ hB.blk hB.map kl hkey hh (e1 _)).mono fun e w' h => ?_
      have e5 : L' = L := e4.symm.trans hL
      subst e5
      exact hit_as hB (hE.symm.trans e3) e2 e w' h
    · have hh' : has D kl = false := by simpa using hh
      by_cases h0 : E = 0
      · rw [xv, yv]
        exact (Do_new2 gb gm hne d0 a0 b0 v x.a y.a x.n x.c y.n y.c x.k y.k va _ _ rfl hPL D w hB.blk hB.map hgm kl hkey hh' P A B hx.t hy.t hQA hQB L (hV h0) hL (hE.trans h0)).mono fun e w' h => new_as hB hP hPb hPm hkey h0 (fun _ => hx.k2) (fun _ => hy.k2) (hE.trans h0) hL e w' h
      · rw [xv, yv]
        exact (Do_miss2 gb gm d0 a0 b0 v x.a y.a x.n x.c y.n y.c x.k y.k va _ D w _ hB.blk hB.map kl hkey hh' P A B hx.t hy.t hQA hQB _ L E rfl hL hE h0).mono fun e w' h => miss_as h0 e w' h
  · obtain ⟨kl, hkey⟩ := keyD 3 x.k y.k v (by decide) wx wy
    by_cases hh : has D kl = true
    · obtain ⟨z, L', e1, e2, e3, e4⟩ := hB.known.hit hkey hh (by decide) (fun _ => hx.k2) (fun _ => hy.k2)
      refine (Do_hit3 gb gm d0 a0 b0 v x y z va _ D w _ hB.blk hB.map kl hkey hh (e1 _)).mono fun e w' h => ?_
      have e5 : L' = L := e4.symm.trans hL
      subst e5
      exact hit_as hB (hE.symm.trans e3) e2 e w' h
    · have hh' : has D kl = false := by simpa using hh
      by_cases h0 : E = 0
      · rw [xv, yv]
        exact (Do_new3 gb gm hne d0 a0 b0 v x.a y.a x.n x.c y.n y.c x.k y.k va _ _ rfl hPL D w hB.blk hB.map hgm kl hkey hh' P A B hx.t hy.t hQA hQB L (hV h0) hL (hE.trans h0)).mono fun e w' h => new_as hB hP hPb hPm hkey h0 (fun _ => hx.k2) (fun _ => hy.k2) (hE.trans h0) hL e w' h
      · rw [xv, yv]
        exact (Do_miss3 gb gm d0 a0 b0 v x.a y.a x.n x.c y.n y.c x.k y.k va _ D w _ hB.blk hB.map kl hkey hh' P A B hx.t hy.t hQA hQB _ L E rfl hL hE h0).mono fun e w' h => miss_as h0 e w' h
  · obtain ⟨kl, hkey⟩ := keyD 4 x.k 0 v (by decide) wx w0
    by_cases hh : has D kl = true
    · obtain ⟨z, L', e1, e2, e3, e4⟩ := hB.known.hit hkey hh (by decide) (fun _ => hx.k2) (fun h => absurd h (by decide))
      refine (Do_hit4 gb gm d0 a0 b0 v x y z va _ D w _ hB.blk hB.map kl hkey hh (e1 _)).mono fun e w' h => ?_
      have e5 : L' = L := e4.symm.trans hL
      subst e5
      exact hit_as hB (hE.symm.trans e3) e2 e w' h
    · have hh' : has D kl = false := by simpa using hh
      by_cases h0 : E = 0
      · rw [xv, yv]
        exact (Do_new4 gb gm hne d0 a0 b0 v x.a y.a x.n x.c y.n y.c x.k y.k va _ _ rfl hPL D w hB.blk hB.map hgm kl hkey hh' P A B hx.t hy.t hQA hQB L (hV h0) hL (hE.trans h0)).mono fun e w' h => new_as hB hP hPb hPm hkey h0 (fun _ => hx.k2) (fun h => absurd h (by decide)) (hE.trans h0) hL e w' h
      · rw [xv, yv]
        exact (Do_miss4 gb gm d0 a0 b0 v x.a y.a x.n x.c y.n y.c x.k y.k va _ D w _ hB.blk hB.map kl hkey hh' P A B hx.t hy.t hQA hQB _ L E rfl hL hE h0).mono fun e w' h => miss_as h0 e w' h
  · obtain ⟨kl, hkey⟩ := keyD 5 0 0 v (by decide) w0 w0
    by_cases hh : has D kl = true
    · obtain ⟨z, L', e1, e2, e3, e4⟩ := hB.known.hit hkey hh (by decide) (fun h => absurd h (by decide)) (fun h => absurd h (by decide))
      refine (Do_hit5 gb gm d0 a0 b0 v x y z va _ D w _ hB.blk hB.map kl hkey hh (e1 _)).mono fun e w' h => ?_
      have e5 : L' = L := e4.symm.trans hL
      subst e5
      exact hit_as hB (hE.symm.trans e3) e2 e w' h
    · have hh' : has D kl = false := by simpa using hh
      by_cases h0 : E = 0
      · rw [xv, yv]
        exact (Do_new5 gb gm hne d0 a0 b0 v x.a y.a x.n x.c y.n y.c x.k y.k va _ _ rfl hPL D w hB.blk hB.map hgm kl hkey hh' P A B hx.t hy.t hQA hQB L (hV h0) hL (hE.trans h0)).mono fun e w' h => new_as hB hP hPb hPm hkey h0 (fun h => absurd h (by decide)) (fun h => absurd h (by decide)) (hE.trans h0) hL e w' h
      · rw [xv, yv]
        exact (Do_miss5 gb gm d0 a0 b0 v x.a y.a x.n x.c y.n y.c x.k y.k va _ D w _ hB.blk hB.map kl hkey hh' P A B hx.t hy.t hQA hQB _ L E rfl hL hE h0).mono fun e w' h => miss_as h0 e w' h
  · refine (Do_cpy gb d0 a0 b0 v x y w).mono fun e w' h => ?_
    have e2 : A = L := hL
    subst e2
    exact hit_as hB hE.symm hx e w' h
end Go.Proofs.YtcamcnahkdiefaaGreat

/- A region that draws its order: reads wherever they stand, then operations one behind the other that leave what is read, then pure ones that may come anywhere behind, and the tail; what is late waits for the reads by way of others. -/
namespace Go.Proofs.YtcamcnahkdiefaaGreat
set_option linter.unusedVariables false
set_option linter.unusedSimpArgs false
open Go.RowKit
section
variable {P : Program} {ops : Array Oper} {Q : Exit → Act → World → Prop} {md : Region.Mode} {S : World → Prop} {late : Nat → Bool}
/-- what has come has come behind what it waits for -/
def Shut (md : Region.Mode) (ops : Array Oper) (done : Array Bool) : Prop := ∀ k ok, ops[k]? = some ok → done.getD k true = true → ∀ e ∈ ok.after, Region.binds md e = true → done.getD e.on false = true
theorem Shut.new : Shut md ops (Array.replicate ops.size false) := fun k ok hk h => by
  have hlt := (Array.getElem?_eq_some_iff.1 hk).1
  simp [Array.getD, hlt] at h
theorem Shut.take {done : Array Bool} (h : Shut md ops done) {j : Nat} (hj : j ∈ Region.ready md ops done) : Shut md ops (done.setIfInBounds j true) := fun k ok hk hd e he hb => by
  by_cases e1 : j = k
  · subst e1
    obtain ⟨_, oj, hoj, hall⟩ := mem_ready.1 hj
    obtain rfl : oj = ok := Option.some.inj (hoj.symm.trans hk)
    exact getD_set_true (hall e he hb)
  · rw [getD_set_ne true e1] at hd
    exact getD_set_true (h k ok hk hd e he hb)
/-- does j wait for i, by way of others? -/
def farB (md : Region.Mode) (ops : Array Oper) : Nat → Nat → Nat → Bool
  | 0, _, _ => false
  | n + 1, j, i => match ops[j]? with
    | none => false
    | some o => o.after.any fun e => Region.binds md e && (decide (e.on = i) || farB md ops n e.on i)
theorem getD_ft {done : Array Bool} {k : Nat} (h : done.getD k false = true) : done.getD k true = true := by
  rcases Nat.lt_or_ge k done.size with h' | h'
  · simp [Array.getD, h'] at h ⊢; exact h
  · simp [Array.getD, Nat.not_lt.2 h'] at h
theorem getD_tf {done : Array Bool} {k : Nat} (h : done.getD k true = false) : done.getD k false = false := by
  rcases Nat.lt_or_ge k done.size with h' | h'
  · simp [Array.getD, h'] at h ⊢; exact h
  · simp [Array.getD, Nat.not_lt.2 h'] at h
theorem far_shut {done : Array Bool} (hS : Shut md ops done) {i : Nat} (hi : done.getD i false = false) : ∀ (n j : Nat), farB md ops n j i = true → done.getD j true = true → False
  | 0, j, h, _ => by simp [farB] at h
  | n + 1, j, h, hd => by
    unfold farB at h
    cases ho : ops[j]? with
    | none => rw [ho] at h; cases h
    | some o =>
      rw [ho] at h
      obtain ⟨k, hk, h1⟩ := Array.any_eq_true.1 h
      simp only [Bool.and_eq_true, Bool.or_eq_true, decide_eq_true_eq] at h1
      have h2 := hS j o ho hd o.after[k] (Array.getElem_mem hk) h1.1
      rcases h1.2 with e | e
      · rw [e, hi] at h2; cases h2
      · exact far_shut hS hi n _ e (getD_ft h2)
theorem far_ready {done : Array Bool} (hS : Shut md ops done) {i j n : Nat} (hi : done.getD i false = false) (hj : j ∈ Region.ready md ops done) (h : farB md ops n j i = true) : False := by
  cases n with
  | zero => simp [farB] at h
  | succ n =>
    unfold farB at h
    obtain ⟨_, o, ho, hall⟩ := mem_ready.1 hj
    rw [ho] at h
    obtain ⟨k, hk, h1⟩ := Array.any_eq_true.1 h
    simp only [Bool.and_eq_true, Bool.or_eq_true, decide_eq_true_eq] at h1
    have h2 := hall o.after[k] (Array.getElem_mem hk) h1.1
    rcases h1.2 with e | e
    · rw [e, hi] at h2; cases h2
    · exact far_shut hS hi n _ e (getD_ft h2)
/-- has a late one come? -/
def brk (late : Nat → Bool) (done : Array Bool) : Prop := ∃ k, late k = true ∧ done.getD k false = true
/-- Whatever order is picked: behind each operation that is not late the condition holds, as long as no late one has come. -/
def anyB (P : Program) (md : Region.Mode) (ops : Array Oper) (Q : Exit → Act → World → Prop) (S : World → Prop) (late : Nat → Bool) : Nat → Array Bool → Act → World → Prop
  | 0, done, a, w => Region.ready md ops done = [] ∧ Q .normal a w
  | n + 1, done, a, w => (Region.ready md ops done = [] → Q .normal a w) ∧
    ∀ i ∈ Region.ready md ops done, wpOp P ops Q i (fun a' w' => (brk late done ∨ late i = true ∨ S w') ∧ anyB P md ops Q S late n (done.setIfInBounds i true) a' w') a w
theorem anyB_any : ∀ (n : Nat) (done : Array Bool) (a : Act) (w : World), anyB P md ops Q S late n done a w → wpAny P md ops Q n done a w
  | 0, _, _, _, h => h
  | n + 1, _, _, _, h => ⟨h.1, fun i hi => wpOp_mono (fun a' w' h' => anyB_any n _ a' w' h'.2) (h.2 i hi)⟩
theorem anyB_take {i : Nat} {oi : Oper} {v : Value} (hi : ops[i]? = some oi) (hsel : ∀ (j : Nat) (o : Oper) cs b, ops[j]? = some o → o.op ≠ .select cs b)
    (hQ : ∀ c a w, Q (.panic c) (a.put oi.dst v) w → Q (.panic c) a w) (hlate : ∀ j, late j = true → farB md ops ops.size j i = true) :
    ∀ (n : Nat) (done : Array Bool) (a : Act) (w : World), Shut md ops done →
      (∀ j oj, ops[j]? = some oj → j ≠ i → done.getD j true = false → (∀ e ∈ oj.after, Region.binds md e = true → e.on ≠ i) → oi.apart ops oj = true) →
      i ∈ Region.ready md ops done → YieldsIf P ops S oi v a → S w → anyB P md ops Q S late n (done.setIfInBounds i true) (a.put oi.dst v) w → anyB P md ops Q S late (n + 1) done a w := by
  intro n
  induction n with
  | zero =>
    intro done a w _ _ hr hy hS H
    refine ⟨fun h => (by rw [h] at hr; cases hr), fun j hj => ?_⟩
    by_cases e : j = i
    · subst e; exact hy.wpOp hi hS ⟨.inr (.inr hS), H⟩
    · have := ready_mono hj e
      rw [H.1] at this
      cases this
  | succ n ih =>
    intro done a w hsh hfree hr hy hS H
    refine ⟨fun h => (by rw [h] at hr; cases hr), fun j hj => ?_⟩
    by_cases e : j = i
    · subst e; exact hy.wpOp hi hS ⟨.inr (.inr hS), H⟩
    · have h1 := H.2 j (ready_mono hj e)
      obtain ⟨hun, oj, hoj, hall⟩ := mem_ready.1 hj
      have hin := getD_tf (mem_ready.1 hr).1
      have hno : ∀ x ∈ oj.after, Region.binds md x = true → x.on ≠ i := fun x hx hb hq => by
        have g1 := hall x hx hb
        rw [hq, hin] at g1
        cases g1
      have hnl : late j ≠ true := fun hl => far_ready hsh hin hj (hlate j hl)
      have hnb : ¬ brk late (done.setIfInBounds i true) := by
        rintro ⟨k, hk1, hk2⟩
        by_cases ek : i = k
        · subst ek; exact far_ready hsh hin hr (hlate i hk1)
        · rw [getD_set_ne false ek] at hk2
          exact far_shut hsh hin _ k (hlate k hk1) (getD_ft hk2)
      have h2 := wpOp_putIf hoj (hfree j oj hoj e hun hno) (fun cs b => hsel i oi cs b hi) (fun cs b => hsel j oj cs b hoj) hQ hy h1
      refine wpOp_mono (fun a' w' h3 => ?_) h2
      have hS' : S w' := (h3.2.1.resolve_left hnb).resolve_left hnl
      refine ⟨.inr (.inr hS'), ih (done.setIfInBounds j true) a' w' (hsh.take hj) (fun k ok hk hki hu hn => ?_) (ready_mono hr (Ne.symm e)) h3.1 hS' ?_⟩
      · refine hfree k ok hk hki ?_ hn
        by_cases hjk : j = k
        · subst hjk; exact hun
        · rw [getD_set_ne true hjk] at hu; exact hu
      · rw [Array.setIfInBounds_comm _ _ e]
        exact h3.2.2
/-- a pure operation that may come anywhere -/
theorem anyB_takeT {i : Nat} {oi : Oper} {v : Value} (hi : ops[i]? = some oi) (hsel : ∀ (j : Nat) (o : Oper) cs b, ops[j]? = some o → o.op ≠ .select cs b)
    (hQ : ∀ c a w, Q (.panic c) (a.put oi.dst v) w → Q (.panic c) a w) (hil : late i = false) :
    ∀ (n : Nat) (done : Array Bool) (a : Act) (w : World),
      (∀ j oj, ops[j]? = some oj → j ≠ i → done.getD j true = false → (∀ e ∈ oj.after, Region.binds md e = true → e.on ≠ i) → oi.apart ops oj = true) →
      i ∈ Region.ready md ops done → YieldsIf P ops (fun _ => True) oi v a → (brk late done ∨ S w) → anyB P md ops Q S late n (done.setIfInBounds i true) (a.put oi.dst v) w → anyB P md ops Q S late (n + 1) done a w := by
  intro n
  induction n with
  | zero =>
    intro done a w _ hr hy hS H
    refine ⟨fun h => (by rw [h] at hr; cases hr), fun j hj => ?_⟩
    by_cases e : j = i
    · subst e; exact hy.wpOp hi trivial ⟨hS.elim .inl (fun h => .inr (.inr h)), H⟩
    · have := ready_mono hj e
      rw [H.1] at this
      cases this
  | succ n ih =>
    intro done a w hfree hr hy hS H
    refine ⟨fun h => (by rw [h] at hr; cases hr), fun j hj => ?_⟩
    by_cases e : j = i
    · subst e; exact hy.wpOp hi trivial ⟨hS.elim .inl (fun h => .inr (.inr h)), H⟩
    · have h1 := H.2 j (ready_mono hj e)
      obtain ⟨hun, oj, hoj, hall⟩ := mem_ready.1 hj
      have hin := getD_tf (mem_ready.1 hr).1
      have hno : ∀ x ∈ oj.after, Region.binds md x = true → x.on ≠ i := fun x hx hb hq => by
        have g1 := hall x hx hb
        rw [hq, hin] at g1
        cases g1
      have hnb : brk late (done.setIfInBounds i true) → brk late done := by
        rintro ⟨k, hk1, hk2⟩
        by_cases ek : i = k
        · subst ek; rw [hil] at hk1; cases hk1
        · rw [getD_set_ne false ek] at hk2
          exact ⟨k, hk1, hk2⟩
      have h2 := wpOp_putIf hoj (hfree j oj hoj e hun hno) (fun cs b => hsel i oi cs b hi) (fun cs b => hsel j oj cs b hoj) hQ hy h1
      refine wpOp_mono (fun a' w' h3 => ?_) h2
      have hc : brk late done ∨ late j = true ∨ S w' := h3.2.1.imp hnb id
      have hjr : j < done.size := by
        rcases Nat.lt_or_ge j done.size with h' | h'
        · exact h'
        · have := (mem_ready.1 hj).1
          simp [Array.getD, Nat.not_lt.2 h'] at this
      have hc2 : brk late (done.setIfInBounds j true) ∨ S w' := by
        rcases hc with ⟨k, hk1, hk2⟩ | hl | hs
        · exact .inl ⟨k, hk1, getD_set_true hk2⟩
        · exact .inl ⟨j, hl, by simp [Array.getD, hjr]⟩
        · exact .inr hs
      refine ⟨hc, ih (done.setIfInBounds j true) a' w' (fun k ok hk hki hu hn => ?_) (ready_mono hr (Ne.symm e)) h3.1 hc2 ?_⟩
      · refine hfree k ok hk hki ?_ hn
        by_cases hjk : j = k
        · subst hjk; exact hun
        · rw [getD_set_ne true hjk] at hu; exact hu
      · rw [Array.setIfInBounds_comm _ _ e]
        exact h3.2.2
end
section
variable {P : Program} {l : List Oper} {Q : Exit → Act → World → Prop} {md : Region.Mode} {S : World → Prop} {late : Nat → Bool}
theorem anyB_headL {g : Nat} {fin : Array Bool} (hs : Region.noSelect l.toArray = true) (hQ : ∀ c a w i v, Q (.panic c) (Act.put a i v) w → Q (.panic c) a w) :
    ∀ (is : List Nat) (done : Array Bool) (a : Act) (w : World), Shut md l.toArray done → (∀ i ∈ is, ∀ j, late j = true → farB md l.toArray l.toArray.size j i = true) →
      goHeadL md l.toArray is done = some fin → S w → headK P l.toArray S (fun a' => anyB P md l.toArray Q S late g fin a' w) (pickL l is) a → anyB P md l.toArray Q S late (is.length + g) done a w
  | [], done, a, w, hsh, _, hg, hS, h => by
    simp only [goHeadL, Option.some.injEq] at hg
    subst hg
    rw [List.length_nil, Nat.zero_add]
    exact h
  | i :: is, done, a, w, hsh, hlate, hg, hS, h => by
    simp only [goHeadL] at hg
    split at hg
    · rename_i hc
      simp only [Bool.and_eq_true] at hc
      have hi : i ∈ Region.ready md l.toArray done := by simpa using hc.1
      obtain ⟨o, h0⟩ := ready_op hi
      rw [pickL_cons (by simpa using h0)] at h
      obtain ⟨v, hy, hK⟩ := h
      rw [List.length_cons, show is.length + 1 + g = is.length + g + 1 by omega]
      exact anyB_take h0 (Region.noSelect_spec hs) (fun c a w => hQ c a w _ _) (hlate i List.mem_cons_self) _ _ _ _ hsh (Region.free_spec h0 hc.2) hi hy hS
        (anyB_headL hs hQ is _ _ w (hsh.take hi) (fun j hj => hlate j (List.mem_cons_of_mem _ hj)) hg hS hK)
    · cases hg
theorem anyB_headT {g : Nat} {fin : Array Bool} (hs : Region.noSelect l.toArray = true) (hQ : ∀ c a w i v, Q (.panic c) (Act.put a i v) w → Q (.panic c) a w) :
    ∀ (is : List Nat) (done : Array Bool) (a : Act) (w : World), (∀ i ∈ is, late i = false) →
      goHeadL md l.toArray is done = some fin → (brk late done ∨ S w) → headK P l.toArray (fun _ => True) (fun a' => anyB P md l.toArray Q S late g fin a' w) (pickL l is) a → anyB P md l.toArray Q S late (is.length + g) done a w
  | [], done, a, w, _, hg, hS, h => by
    simp only [goHeadL, Option.some.injEq] at hg
    subst hg
    rw [List.length_nil, Nat.zero_add]
    exact h
  | i :: is, done, a, w, hlate, hg, hS, h => by
    simp only [goHeadL] at hg
    split at hg
    · rename_i hc
      simp only [Bool.and_eq_true] at hc
      have hi : i ∈ Region.ready md l.toArray done := by simpa using hc.1
      obtain ⟨o, h0⟩ := ready_op hi
      rw [pickL_cons (by simpa using h0)] at h
      obtain ⟨v, hy, hK⟩ := h
      rw [List.length_cons, show is.length + 1 + g = is.length + g + 1 by omega]
      exact anyB_takeT h0 (Region.noSelect_spec hs) (fun c a w => hQ c a w _ _) (hlate i List.mem_cons_self) _ _ _ _ (Region.free_spec h0 hc.2) hi hy hS
        (anyB_headT hs hQ is _ _ w (fun j hj => hlate j (List.mem_cons_of_mem _ hj)) hg (hS.imp (fun ⟨k, h1, h2⟩ => ⟨k, h1, getD_set_true h2⟩) id) hK)
    · cases hg
theorem anyB_seq : ∀ (is : List Nat) (done : Array Bool) (a : Act) (w : World), (∀ i ∈ is, late i = true) →
    seqL md l.toArray is done = true → wpList P l.toArray Q (pickL l is) a w → anyB P md l.toArray Q S late is.length done a w
  | [], _, _, _, _, hB, h => ⟨by simpa [seqL] using hB, h⟩
  | i :: is, done, a, w, hL, hB, h => by
    simp only [seqL, Bool.and_eq_true, decide_eq_true_eq] at hB
    obtain ⟨o, h0⟩ := ready_op (md := md) (i := i) (ops := l.toArray) (done := done) (by rw [hB.1]; simp)
    rw [pickL_cons (by simpa using h0)] at h
    refine ⟨fun h1 => (by rw [hB.1] at h1; cases h1), fun j hj => ?_⟩
    rw [hB.1] at hj
    have hij : j = i := by simpa using hj
    subst hij
    have hw : wpOp P l.toArray Q j (wpList P l.toArray Q (pickL l is)) a w := by unfold wpOp; simp only [h0]; exact h
    exact wpOp_mono (fun a' w' h' => ⟨.inr (.inl (hL j List.mem_cons_self)), anyB_seq is _ a' w' (fun x hx => hL x (List.mem_cons_of_mem _ hx)) hB.2 h'⟩) hw
/-- the middle ones, then anything -/
def midF (P : Program) (ops : Array Oper) (Q : Exit → Act → World → Prop) (S : World → Prop) (F : Act → World → Prop) : List Oper → Act → World → Prop
  | [], a, w => F a w
  | o :: mid, a, w => ∀ K : Act → World → Prop, (∀ a2 w2, S w2 → midF P ops Q S F mid a2 w2 → K a2 w2) → if Region.wanted o (yielded ops a.tmps) = true then Oper.wp P o a w K Q else K (a.put o.dst undef) w
/-- Is this the only order, and what has come then? -/
def seqF (md : Region.Mode) (ops : Array Oper) : List Nat → Array Bool → Option (Array Bool)
  | [], done => some done
  | i :: is, done => if Region.ready md ops done = [i] then seqF md ops is (done.setIfInBounds i true) else none
theorem anyB_midF {g : Nat} {fin : Array Bool} : ∀ (mid : List Nat) (done : Array Bool) (a : Act) (w : World), S w →
    seqF md l.toArray mid done = some fin → midF P l.toArray Q S (fun a w => S w → anyB P md l.toArray Q S late g fin a w) (pickL l mid) a w → anyB P md l.toArray Q S late (mid.length + g) done a w
  | [], done, a, w, hS, hB, h => by
    simp only [seqF, Option.some.injEq] at hB
    subst hB
    rw [List.length_nil, Nat.zero_add]
    exact h hS
  | i :: mid, done, a, w, hS, hB, h => by
    simp only [seqF] at hB
    split at hB
    · rename_i hr
      obtain ⟨o, h0⟩ := ready_op (md := md) (i := i) (ops := l.toArray) (done := done) (by rw [hr]; simp)
      rw [pickL_cons (by simpa using h0)] at h
      rw [List.length_cons, show mid.length + 1 + g = mid.length + g + 1 by omega]
      refine ⟨fun h1 => (by rw [hr] at h1; cases h1), fun j hj => ?_⟩
      have hj' := hj
      rw [hr] at hj'
      have hij : j = i := by simpa using hj'
      subst hij
      unfold wpOp
      simp only [h0]
      have h1 := h (fun a' w' => (brk late done ∨ late j = true ∨ S w') ∧ anyB P md l.toArray Q S late (mid.length + g) (done.setIfInBounds j true) a' w') (fun a2 w2 hs2 hw2 => ⟨.inr (.inr hs2),
        anyB_midF mid _ a2 w2 hs2 hB hw2⟩)
      split
      · rename_i hw; rw [if_pos hw] at h1; exact .inl h1
      · rename_i hw; rw [if_neg hw] at h1; exact h1
    · cases hB
def fanB (ops : Array Oper) (hd mid hd2 tl : List Nat) : Bool :=
  Region.noSelect ops && decide (hd.length + (mid.length + (hd2.length + tl.length)) = ops.size) && (tl.all fun j => hd.all fun i => farB .any ops ops.size j i) && (hd2.all fun j => !tl.contains j) &&
  match goHeadL .any ops hd (Array.replicate ops.size false) with
    | some fin => match seqF .any ops mid fin with
      | some fin2 => match goHeadL .any ops hd2 fin2 with
        | some fin3 => seqL .any ops tl fin3
        | none => false
      | none => false
    | none => false
/-- Reads at the places `hd`, the operations at `mid`, pure ones at `hd2` that may come anywhere behind, those at `tl`: by this one order. -/
theorem wp_region_fan {id : Nat} {a : Act} {w : World} (hd mid hd2 tl : List Nat) (S : World → Prop) (hm : P.follows .mixedOrders = true) (hB : fanB l.toArray hd mid hd2 tl = true) (hS : S w.drew)
    (h : headK P l.toArray S (fun a' => midF P l.toArray (NoPanic Q) S (fun a w => headK P l.toArray (fun _ => True) (fun a' => wpList P l.toArray (NoPanic Q) (pickL l tl) a' w) (pickL l hd2) a) (pickL l mid) a' w.drew) (pickL l hd) a) : (Code.region id l.toArray true).wp P Q a w := by
  refine wp_region_noPanic (wp_region_any hm ?_)
  simp only [fanB, Bool.and_eq_true, decide_eq_true_eq] at hB
  obtain ⟨⟨⟨⟨hs, hn⟩, hlB⟩, hdis⟩, hg⟩ := hB
  cases hgo : goHeadL .any l.toArray hd (Array.replicate l.toArray.size false) with
  | none => rw [hgo] at hg; cases hg
  | some fin =>
    rw [hgo] at hg
    simp only at hg
    cases hsq : seqF .any l.toArray mid fin with
    | none => rw [hsq] at hg; cases hg
    | some fin2 =>
      rw [hsq] at hg
      simp only at hg
      cases hgo2 : goHeadL .any l.toArray hd2 fin2 with
      | none => rw [hgo2] at hg; cases hg
      | some fin3 =>
        rw [hgo2] at hg
        simp only at hg
        refine anyB_any (S := S) (late := fun j => tl.contains j) _ _ _ _ ?_
        have last : ∀ a w, S w → headK P l.toArray (fun _ => True) (fun a' => wpList P l.toArray (NoPanic Q) (pickL l tl) a' w) (pickL l hd2) a →
            anyB P .any l.toArray (NoPanic Q) S (fun j => tl.contains j) (hd2.length + tl.length) fin2 a w := fun a w hS hh => by
          refine anyB_headT (g := tl.length) (fin := fin3) hs (fun c a w i v hq => by cases hq) hd2 fin2 a w (fun i hi => by have := List.all_eq_true.1 hdis i hi; simpa using this) hgo2 (.inr hS) ?_
          have key : ∀ (ll : List Oper) (a0 : Act), headK P l.toArray (fun _ => True) (fun a' => wpList P l.toArray (NoPanic Q) (pickL l tl) a' w) ll a0 →
              headK P l.toArray (fun _ => True) (fun a' => anyB P .any l.toArray (NoPanic Q) S (fun j => tl.contains j) tl.length fin3 a' w) ll a0 := by
            intro ll
            induction ll with
            | nil => exact fun a0 h0 => anyB_seq tl fin3 a0 _ (fun i hi => by simpa using hi) hg h0
            | cons o ll ih =>
              intro a0 h0
              obtain ⟨v, hy, hK⟩ := h0
              exact ⟨v, hy, ih _ hK⟩
          exact key _ _ hh
        have keyM : ∀ (ll : List Oper) (a0 : Act) (w0 : World), midF P l.toArray (NoPanic Q) S (fun a w => headK P l.toArray (fun _ => True) (fun a' => wpList P l.toArray (NoPanic Q) (pickL l tl) a' w) (pickL l hd2) a) ll a0 w0 →
            midF P l.toArray (NoPanic Q) S (fun a w => S w → anyB P .any l.toArray (NoPanic Q) S (fun j => tl.contains j) (hd2.length + tl.length) fin2 a w) ll a0 w0 := by
          intro ll
          induction ll with
          | nil => exact fun a0 w0 h0 hS => last a0 w0 hS h0
          | cons o ll ih =>
            intro a0 w0 h0 K hK
            exact h0 K (fun a2 w2 hs2 hm2 => hK a2 w2 hs2 (ih a2 w2 hm2))
        have keyH : ∀ (ll : List Oper) (a0 : Act), headK P l.toArray S (fun a' => midF P l.toArray (NoPanic Q) S (fun a w => headK P l.toArray (fun _ => True) (fun a' => wpList P l.toArray (NoPanic Q) (pickL l tl) a' w) (pickL l hd2) a) (pickL l mid) a' w.drew) ll a0 →
            headK P l.toArray S (fun a' => anyB P .any l.toArray (NoPanic Q) S (fun j => tl.contains j) (mid.length + (hd2.length + tl.length)) fin a' w.drew) ll a0 := by
          intro ll
          induction ll with
          | nil => exact fun a0 h0 => anyB_midF mid fin a0 _ hS hsq (keyM _ _ _ h0)
          | cons o ll ih =>
            intro a0 h0
            obtain ⟨v, hy, hK⟩ := h0
            exact ⟨v, hy, ih _ hK⟩
        have h1 := anyB_headL (Q := NoPanic Q) (late := fun j => tl.contains j) (g := mid.length + (hd2.length + tl.length)) (fin := fin) hs (fun c a w i v hq => by cases hq) hd (Array.replicate l.toArray.size false) a w.drew Shut.new (fun i hi j hj => by
          have hjt : j ∈ tl := by simpa using hj
          exact List.all_eq_true.1 (List.all_eq_true.1 hlB j hjt) i hi) hgo hS (keyH _ _ h)
        rw [hn] at h1
        exact h1
end
end Go.Proofs.YtcamcnahkdiefaaGreat
