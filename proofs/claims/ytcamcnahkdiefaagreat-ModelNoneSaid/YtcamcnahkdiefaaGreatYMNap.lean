/- Several texts of mine in one file. -/
import Derived.Test.YtcamcnahkdiefaaGreatYMNao
import Derived.Test.YtcamcnahkdiefaaGreatYMNaj
import Derived.Test.YtcamcnahkdiefaaGreatYMNaf
import Derived.Test.YtcamcnahkdiefaaGreatYMNah
import Derived.Test.YtcamcnahkdiefaaGreatYMNai
import Derived.Test.YtcamcnahkdiefaaGreatYMNag
import Derived.Test.YtcamcnahkdiefaaGreatYMNak
/- Several texts of mine in one file: Syh, Syi. -/
/- symbol.do: a copy; and where the state is not known and the operation has no error. -/
namespace Go.Proofs.YtcamcnahkdiefaaGreat
set_option linter.unusedVariables false
set_option linter.unusedSimpArgs false
open Go.RowKit Go.Maps
set_option maxRecDepth 100000 in
set_option maxHeartbeats 3200000 in
theorem Do_cpy (gb : Nat) (d0 a0 b0 : Int) (v : UInt64) (x y : StH) (w : World) :
    Calls Tryz.prog 86 #[.pointer (some ⟨gb, 0, none⟩), .agg #[.int .i64 6, .int .i64 d0, .int .i64 a0, .int .i64 b0, .int .u64 (v.toNat : Int)], stV x, stV y] w fun e w' => e = .returned (.tuple #[stV x, .int .i64 0]) ∧ Below w.heap.size w w' := by
  obtain ⟨hX1, hX2, hX3, hX4, hb0, hz0⟩ := four_boxes w 89 162 162 162 #[.int .i64 6, .int .i64 d0, .int .i64 a0, .int .i64 b0, .int .u64 (v.toNat : Int)] #[.int .i64 x.v, .slice x.a x.n x.c, .int .i64 x.k] #[.int .i64 y.v, .slice y.a y.n y.c, .int .i64 y.k] #[.int .i64 x.v, .slice x.a x.n x.c, .int .i64 x.k]
  go_enter Tryz.func86, Tryz.ntmps86
  go_wp2
  refine bodyPost_ret (results_rowP rfl _ _ (w.heap.size + 1 + 1 + 1) _ #[.int .i64 x.v, .slice x.a x.n x.c, .int .i64 x.k] (0, 0) _ rfl hX4 Tryz.underlying162 rfl (by kernel_rfl)) rfl ⟨rfl, hb0⟩
theorem Of_callsM (gb : Nat) (va : Int) (bm : Value) (nx m : Nat) (hm : nx + 1 = m) (hnx : nx ≤ 100000000) (a : Option Addr) (n c : Nat) (w : World) (hbk : Blk w gb 159 #[.int .i64 va, bm, .int .i64 (nx : Int)]) (pv : Int) :
    Calls Tryz.prog 85 #[.pointer (some ⟨gb, 0, none⟩), .agg #[.int .i64 pv, .slice a n c]] w fun e w' => e = .returned (.agg #[.int .i64 pv, .slice a n c, .int .i64 (m : Int)]) ∧ Blk w' gb 159 #[.int .i64 va, bm, .int .i64 (m : Int)] ∧ w.grownBy w' (some gb) := by
  subst hm
  exact Of_calls gb va bm nx hnx a n c w hbk pv
def DoNew (gb gm m : Nat) (va : Int) (L : List Tm) (D : DataW Value) (kl : Lit) (w : World) (e : Ending) (w' : World) : Prop :=
  ∃ (a9 : Option Addr) (n9 c9 : Nat), e = .returned (.tuple #[.agg #[.int .i64 va, .slice a9 n9 c9, .int .i64 (m : Int)], .int .i64 0]) ∧ TOut (fun q => w.heap.size ≤ q) w' a9 n9 c9 L ∧ Blk w' gb 159 #[.int .i64 va, .map (some gm), .int .i64 (m : Int)] ∧
    w'.ownsMap Tryz.prog 206 heldR gm m (D.put kl (.held (.agg #[.int .i64 va, .slice a9 n9 c9, .int .i64 (m : Int)]))) ∧ Turned [gb, gm] w w'
theorem turned_two {w a b c : World} {gb gm : Nat} (h1 : Below w.heap.size w a) (h2 : a.grownBy b (some gb)) (h3 : b.grownBy c (some gm)) : Turned [gb, gm] w c :=
  ((Turned.ofBelow (F := [gb, gm]) h1).trans (Turned.ofGrown (F := [gb, gm]) h2 (fun k hk => .inl (by injection hk with hk; simp [hk]))) (fun k hk => .inl hk)).trans (Turned.ofGrown (F := [gb, gm]) h3 (fun k hk => .inl (by injection hk with hk; simp [hk]))) (fun k hk => .inl hk)
set_option maxRecDepth 100000 in
set_option maxHeartbeats 3200000 in
theorem Do_new1 (gb gm : Nat) (hne : gb ≠ gm) (d0 a0 b0 : Int) (v : UInt64) (xa ya : Option Addr) (xn xc yn yc : Nat) (xk yk : Int) (va : Int) (n m : Nat) (hm : n + 1 = m) (hn6 : n ≤ 100000000) (D : DataW Value) (w : World) (hbk : Blk w gb 159 #[.int .i64 va, .map (some gm), .int .i64 (n : Int)]) (hown : w.ownsMap Tryz.prog 206 heldR gm n D) (hgm : gm < w.heap.size) (kl : Lit)
    (hkey : keyOf Tryz.prog 206 (doneV 1 xk yk v) = some kl) (hh : has D kl = false) (P : Nat → Prop) (A B : List Tm) (hx : TOut P w xa xn xc A) (hy : TOut P w ya yn yc B) (hQA : checkP va A = true) (hQB : checkP va B = true)
    (L : List Tm) (hV : symV va 1 v A B = va) (hL : symL va 1 v A B = L) (hE : symE va 1 v A B = 0) :
    Calls Tryz.prog 86 #[.pointer (some ⟨gb, 0, none⟩), .agg #[.int .i64 1, .int .i64 d0, .int .i64 a0, .int .i64 b0, .int .u64 (v.toNat : Int)], .agg #[.int .i64 va, .slice xa xn xc, .int .i64 xk], .agg #[.int .i64 va, .slice ya yn yc, .int .i64 yk]] w (DoNew gb gm m va L D kl w) := by
  have hgb := hbk.lt
  have HL : ∀ W', Below w.heap.size w W' → (Instr.lookup 157 (.map (some gm)) (doneV 1 xk yk v) true).run Tryz.prog W' = .ok (.tuple #[st0, .bool false]) W' := fun W' hb => by
    have := book_look (hown.kept (grown_of_below hb none) (by simp)) hkey st0 (at_miss hh _)
    rw [hh] at this
    exact this
  have HRK := hide (fun (W' : World) (hb : Below w.heap.size w W') => Reckon_calls gb 1 d0 a0 b0 v (by decide) P P va xa ya xn xc yn yc A B W' (hx.belowN hb) (hy.belowN hb) hQA hQB (.map (some gm)) (.int .i64 (n : Int)) (hbk.belowN hb) va L 0 hV hL hE)
  have HOF := hide (fun (W' : World) (hb : Below w.heap.size w W') (a9 : Option Addr) (n9 c9 : Nat) => Of_callsM gb va (.map (some gm)) n m hm hn6 a9 n9 c9 W' (hbk.belowN hb) va)
  have HOW := hide (fun (W' : World) (hb : Below w.heap.size w W') => hown.kept (grown_of_below hb none) (by simp))
  have HNM : Hid (n < maxLen) := by show _ < _; unfold maxLen; omega
  have HM := hide hm
  have HKEY := hide hkey
  obtain ⟨W1, hW1⟩ : ∃ W1, W1 = (((((w.alloc (.cells #[.int .i64 1, .int .i64 d0, .int .i64 a0, .int .i64 b0, .int .u64 (v.toNat : Int)] 89)).alloc (.cells #[.int .i64 va, .slice xa xn xc, .int .i64 xk] 162)).alloc (.cells #[.int .i64 va, .slice ya yn yc, .int .i64 yk] 162)).alloc (.cells #[.int .i64 0, .slice none 0 0, .int .i64 0] 162)).alloc (.cells #[.int .i64 1, .int .i64 xk, .int .i64 yk, .int .u64 (v.toNat : Int)] 206)) := ⟨_, rfl⟩
  obtain ⟨hX1, hX2, hX3, hX4, hX5, hb0, hz0⟩ := five_boxes w 89 162 162 162 206 #[.int .i64 1, .int .i64 d0, .int .i64 a0, .int .i64 b0, .int .u64 (v.toNat : Int)] #[.int .i64 va, .slice xa xn xc, .int .i64 xk] #[.int .i64 va, .slice ya yn yc, .int .i64 yk] #[.int .i64 0, .slice none 0 0, .int .i64 0] #[.int .i64 1, .int .i64 xk, .int .i64 yk, .int .u64 (v.toNat : Int)] W1 hW1
  have hbQ := hb0.trans ((below_box W1 (.cells #[.int .i64 0, .slice none 0 0, .int .i64 0] 162)).mono hb0.size)
  have hl1 := HL _ (Below.drew (Below.drew hb0))
  have hbR := Below.drew (Below.drew hbQ)
  have hl2 := HL _ hbR
  have hX4' := (hX4.alloc (.cells #[.int .i64 0, .slice none 0 0, .int .i64 0] 162)).belowN (Below.drew (Below.drew (Below.refl _ _)))
  have hX5' := (hX5.alloc (.cells #[.int .i64 0, .slice none 0 0, .int .i64 0] 162)).belowN (Below.drew (Below.drew (Below.refl _ _)))
  have hk1 := hbk.belowN hb0
  obtain ⟨k0, k1, k2, k3, k4, k5⟩ := hk1.c3
  obtain ⟨k6, k7, k8, k9, k10, k11⟩ := (hk1.alloc (.cells #[.int .i64 0, .slice none 0 0, .int .i64 0] 162)).c3
  rw [hW1] at hl1 hl2 k0 k1 k2 k6 k7 k8 hbR hX4' hX5'
  clear HL hown hkey hh hV hL hE hx hy hm
  go_enter Tryz.func86, Tryz.ntmps86
  go_wp2
  go_region
  go_wp2
  go_region
  all_goals go_wp2_with (first
    | (go_at_call 85; go_must (have hgd := hB10; (with_reducible refine (HOF.out _ hB10 _ _ _).mono ?_); rintro vv w11 ⟨rfl, hk11, hg11⟩; have hX11 := hX10.grown hg11 (by simp; omega); have hD11 := hD10.grown hg11 (by simp; omega); have hT11 := (hT9'.belowN (below_box w9 (.cells #[.int .i64 va, .slice a9 n9 c9] 42))).grown hg11 (fun g hg => by injection hg with hg; omega); have hm11 := (HOW.out _ hB10).kept hg11 (by intro h; injection h with h; exact hne h.symm)))
    | (go_at_call 129; go_must ((with_reducible refine (HRK.out _ hbR).mono ?_); rintro vv w9 ⟨a9, n9, c9, rfl, hT9, hb9⟩; have hB9 := hbR.trans (hb9.mono hbR.size); have hT9' := hT9.imp (Q := fun q => w.heap.size + 1 + 1 + 1 < q) (fun q hq => by have := hX4'.lt; omega); have hX9 : Blk w9 (w.heap.size + 1 + 1 + 1) 162 #[.int .i64 0, .slice none 0 0, .int .i64 0] := Blk.belowN hX4' hb9; have hD9 : Blk w9 (w.heap.size + 1 + 1 + 1 + 1) 206 #[.int .i64 1, .int .i64 xk, .int .i64 yk, .int .u64 (v.toNat : Int)] := Blk.belowN hX5' hb9; have hX10 := hX9.alloc (.cells #[.int .i64 va, .slice a9 n9 c9] 42); have hD10 := hD9.alloc (.cells #[.int .i64 va, .slice a9 n9 c9] 42); have hB10 := hB9.alloc hB9.size (.cells #[.int .i64 va, .slice a9 n9 c9] 42); have hN10 := Blk.new w9 42 #[.int .i64 va, .slice a9 n9 c9]; obtain ⟨y0, y1, y2, y3⟩ := hN10.c2)))
  all_goals
    have hS12 := Blk.new w11 162 #[.int .i64 va, .slice a9 n9 c9, .int .i64 (m : Int)]
    obtain ⟨s0, s1, s2, s3, s4, s5⟩ := hS12.c3
    obtain ⟨e0, e1, e2, e3, e4, e5, e6, e7⟩ := (hD11.alloc (.cells #[.int .i64 va, .slice a9 n9 c9, .int .i64 (m : Int)] 162)).c4
    obtain ⟨f0, f1, f2, f3, f4, f5⟩ := (hk11.alloc (.cells #[.int .i64 va, .slice a9 n9 c9, .int .i64 (m : Int)] 162)).c3
    have hdw := Below.drew (below_box w11 (.cells #[.int .i64 va, .slice a9 n9 c9, .int .i64 (m : Int)] 162))
    obtain ⟨w13, hup, hm13, hg13⟩ := (hm11.kept (grown_of_below hdw none) (by simp)).update lawD Tryz.underlying157 HNM.out HKEY.out (val := .agg #[.int .i64 va, .slice a9 n9 c9, .int .i64 (m : Int)]) (d := .held (.agg #[.int .i64 va, .slice a9 n9 c9, .int .i64 (m : Int)])) (ps := []) rfl
    have hz11 := hX11.lt
    have hX13 := (hX11.belowN hdw).grown hg13 (by simp; omega)
    have hS13 := (hS12.belowN (Below.drew (Below.refl _ _))).grown hg13 (by simp; omega)
    have hk13 := (hk11.belowN hdw).grown hg13 (by intro h; injection h with h; exact hne h)
    have hT13 := (hT11.belowN hdw).grown hg13 (fun g hg => by injection hg with hg; omega)
    obtain ⟨x0, x1, x2, x3, x4, x5⟩ := hX13.c3
    obtain ⟨t0, t1, t2, t3, t4, t5⟩ := hS13.c3
    rw [HM.out] at hm13
    have hq : w.heap.size + 1 + 1 + 1 ≠ w11.heap.size := by omega
    go_region
    go_wp2
  all_goals have hF := ((hX13.set_ 0 (.int .i64 va)).set_ 1 (.slice a9 n9 c9)).set_ 2 (.int .i64 (m : Int))
  all_goals refine bodyPost_ret (results_rowP rfl _ _ (w.heap.size + 1 + 1 + 1) _ #[.int .i64 va, .slice a9 n9 c9, .int .i64 (m : Int)] (0, 0) _ rfl hF Tryz.underlying162 rfl (by kernel_rfl)) rfl ?_
  all_goals
    have hs0 := grown_setCell w13 (w.heap.size + 1 + 1 + 1) 0 (.int .i64 va)
    have hs1 := grown_trans hs0 (grown_setCell _ (w.heap.size + 1 + 1 + 1) 1 (.slice a9 n9 c9))
    have hs2 := grown_trans hs1 (grown_setCell _ (w.heap.size + 1 + 1 + 1) 2 (.int .i64 (m : Int)))
    refine ⟨a9, n9, c9, rfl, (hT13.grown hs2 (fun g hg => by injection hg with hg; omega)).imp (fun q hq => by omega), hk13.grown hs2 (by simp; omega), hm13.kept hs2 (by simp; omega), ?_⟩
    exact (turned_two hB10 hg11 (grown_trans (grown_of_below hdw _) hg13)).trans (Turned.ofGrown (F := [w.heap.size + 1 + 1 + 1]) hs2 (fun k hk => .inl (by injection hk with hk; simp [hk]))) (fun k hk => .inr (by simp at hk; omega))
set_option maxRecDepth 100000 in
set_option maxHeartbeats 3200000 in
theorem Do_new2 (gb gm : Nat) (hne : gb ≠ gm) (d0 a0 b0 : Int) (v : UInt64) (xa ya : Option Addr) (xn xc yn yc : Nat) (xk yk : Int) (va : Int) (n m : Nat) (hm : n + 1 = m) (hn6 : n ≤ 100000000) (D : DataW Value) (w : World) (hbk : Blk w gb 159 #[.int .i64 va, .map (some gm), .int .i64 (n : Int)]) (hown : w.ownsMap Tryz.prog 206 heldR gm n D) (hgm : gm < w.heap.size) (kl : Lit)
    (hkey : keyOf Tryz.prog 206 (doneV 2 xk yk v) = some kl) (hh : has D kl = false) (P : Nat → Prop) (A B : List Tm) (hx : TOut P w xa xn xc A) (hy : TOut P w ya yn yc B) (hQA : checkP va A = true) (hQB : checkP va B = true)
    (L : List Tm) (hV : symV va 2 v A B = va) (hL : symL va 2 v A B = L) (hE : symE va 2 v A B = 0) :
    Calls Tryz.prog 86 #[.pointer (some ⟨gb, 0, none⟩), .agg #[.int .i64 2, .int .i64 d0, .int .i64 a0, .int .i64 b0, .int .u64 (v.toNat : Int)], .agg #[.int .i64 va, .slice xa xn xc, .int .i64 xk], .agg #[.int .i64 va, .slice ya yn yc, .int .i64 yk]] w (DoNew gb gm m va L D kl w) := by
  have hgb := hbk.lt
  have HL : ∀ W', Below w.heap.size w W' → (Instr.lookup 157 (.map (some gm)) (doneV 2 xk yk v) true).run Tryz.prog W' = .ok (.tuple #[st0, .bool false]) W' := fun W' hb => by
    have := book_look (hown.kept (grown_of_below hb none) (by simp)) hkey st0 (at_miss hh _)
    rw [hh] at this
    exact this
  have HRK := hide (fun (W' : World) (hb : Below w.heap.size w W') => Reckon_calls gb 2 d0 a0 b0 v (by decide) P P va xa ya xn xc yn yc A B W' (hx.belowN hb) (hy.belowN hb) hQA hQB (.map (some gm)) (.int .i64 (n : Int)) (hbk.belowN hb) va L 0 hV hL hE)
  have HOF := hide (fun (W' : World) (hb : Below w.heap.size w W') (a9 : Option Addr) (n9 c9 : Nat) => Of_callsM gb va (.map (some gm)) n m hm hn6 a9 n9 c9 W' (hbk.belowN hb) va)
  have HOW := hide (fun (W' : World) (hb : Below w.heap.size w W') => hown.kept (grown_of_below hb none) (by simp))
  have HNM : Hid (n < maxLen) := by show _ < _; unfold maxLen; omega
  have HM := hide hm
  have HKEY := hide hkey
  obtain ⟨W1, hW1⟩ : ∃ W1, W1 = (((((w.alloc (.cells #[.int .i64 2, .int .i64 d0, .int .i64 a0, .int .i64 b0, .int .u64 (v.toNat : Int)] 89)).alloc (.cells #[.int .i64 va, .slice xa xn xc, .int .i64 xk] 162)).alloc (.cells #[.int .i64 va, .slice ya yn yc, .int .i64 yk] 162)).alloc (.cells #[.int .i64 0, .slice none 0 0, .int .i64 0] 162)).alloc (.cells #[.int .i64 2, .int .i64 xk, .int .i64 yk, .int .u64 (v.toNat : Int)] 206)) := ⟨_, rfl⟩
  obtain ⟨hX1, hX2, hX3, hX4, hX5, hb0, hz0⟩ := five_boxes w 89 162 162 162 206 #[.int .i64 2, .int .i64 d0, .int .i64 a0, .int .i64 b0, .int .u64 (v.toNat : Int)] #[.int .i64 va, .slice xa xn xc, .int .i64 xk] #[.int .i64 va, .slice ya yn yc, .int .i64 yk] #[.int .i64 0, .slice none 0 0, .int .i64 0] #[.int .i64 2, .int .i64 xk, .int .i64 yk, .int .u64 (v.toNat : Int)] W1 hW1
  have hbQ := hb0.trans ((below_box W1 (.cells #[.int .i64 0, .slice none 0 0, .int .i64 0] 162)).mono hb0.size)
  have hl1 := HL _ (Below.drew (Below.drew hb0))
  have hbR := Below.drew (Below.drew hbQ)
  have hl2 := HL _ hbR
  have hX4' := (hX4.alloc (.cells #[.int .i64 0, .slice none 0 0, .int .i64 0] 162)).belowN (Below.drew (Below.drew (Below.refl _ _)))
  have hX5' := (hX5.alloc (.cells #[.int .i64 0, .slice none 0 0, .int .i64 0] 162)).belowN (Below.drew (Below.drew (Below.refl _ _)))
  have hk1 := hbk.belowN hb0
  obtain ⟨k0, k1, k2, k3, k4, k5⟩ := hk1.c3
  obtain ⟨k6, k7, k8, k9, k10, k11⟩ := (hk1.alloc (.cells #[.int .i64 0, .slice none 0 0, .int .i64 0] 162)).c3
  rw [hW1] at hl1 hl2 k0 k1 k2 k6 k7 k8 hbR hX4' hX5'
  clear HL hown hkey hh hV hL hE hx hy hm
  go_enter Tryz.func86, Tryz.ntmps86
  go_wp2
  go_region
  go_wp2
  go_region
  all_goals go_wp2_with (first
    | (go_at_call 85; go_must (have hgd := hB10; (with_reducible refine (HOF.out _ hB10 _ _ _).mono ?_); rintro vv w11 ⟨rfl, hk11, hg11⟩; have hX11 := hX10.grown hg11 (by simp; omega); have hD11 := hD10.grown hg11 (by simp; omega); have hT11 := (hT9'.belowN (below_box w9 (.cells #[.int .i64 va, .slice a9 n9 c9] 42))).grown hg11 (fun g hg => by injection hg with hg; omega); have hm11 := (HOW.out _ hB10).kept hg11 (by intro h; injection h with h; exact hne h.symm)))
    | (go_at_call 129; go_must ((with_reducible refine (HRK.out _ hbR).mono ?_); rintro vv w9 ⟨a9, n9, c9, rfl, hT9, hb9⟩; have hB9 := hbR.trans (hb9.mono hbR.size); have hT9' := hT9.imp (Q := fun q => w.heap.size + 1 + 1 + 1 < q) (fun q hq => by have := hX4'.lt; omega); have hX9 : Blk w9 (w.heap.size + 1 + 1 + 1) 162 #[.int .i64 0, .slice none 0 0, .int .i64 0] := Blk.belowN hX4' hb9; have hD9 : Blk w9 (w.heap.size + 1 + 1 + 1 + 1) 206 #[.int .i64 2, .int .i64 xk, .int .i64 yk, .int .u64 (v.toNat : Int)] := Blk.belowN hX5' hb9; have hX10 := hX9.alloc (.cells #[.int .i64 va, .slice a9 n9 c9] 42); have hD10 := hD9.alloc (.cells #[.int .i64 va, .slice a9 n9 c9] 42); have hB10 := hB9.alloc hB9.size (.cells #[.int .i64 va, .slice a9 n9 c9] 42); have hN10 := Blk.new w9 42 #[.int .i64 va, .slice a9 n9 c9]; obtain ⟨y0, y1, y2, y3⟩ := hN10.c2)))
  all_goals
    have hS12 := Blk.new w11 162 #[.int .i64 va, .slice a9 n9 c9, .int .i64 (m : Int)]
    obtain ⟨s0, s1, s2, s3, s4, s5⟩ := hS12.c3
    obtain ⟨e0, e1, e2, e3, e4, e5, e6, e7⟩ := (hD11.alloc (.cells #[.int .i64 va, .slice a9 n9 c9, .int .i64 (m : Int)] 162)).c4
    obtain ⟨f0, f1, f2, f3, f4, f5⟩ := (hk11.alloc (.cells #[.int .i64 va, .slice a9 n9 c9, .int .i64 (m : Int)] 162)).c3
    have hdw := Below.drew (below_box w11 (.cells #[.int .i64 va, .slice a9 n9 c9, .int .i64 (m : Int)] 162))
    obtain ⟨w13, hup, hm13, hg13⟩ := (hm11.kept (grown_of_below hdw none) (by simp)).update lawD Tryz.underlying157 HNM.out HKEY.out (val := .agg #[.int .i64 va, .slice a9 n9 c9, .int .i64 (m : Int)]) (d := .held (.agg #[.int .i64 va, .slice a9 n9 c9, .int .i64 (m : Int)])) (ps := []) rfl
    have hz11 := hX11.lt
    have hX13 := (hX11.belowN hdw).grown hg13 (by simp; omega)
    have hS13 := (hS12.belowN (Below.drew (Below.refl _ _))).grown hg13 (by simp; omega)
    have hk13 := (hk11.belowN hdw).grown hg13 (by intro h; injection h with h; exact hne h)
    have hT13 := (hT11.belowN hdw).grown hg13 (fun g hg => by injection hg with hg; omega)
    obtain ⟨x0, x1, x2, x3, x4, x5⟩ := hX13.c3
    obtain ⟨t0, t1, t2, t3, t4, t5⟩ := hS13.c3
    rw [HM.out] at hm13
    have hq : w.heap.size + 1 + 1 + 1 ≠ w11.heap.size := by omega
    go_region
    go_wp2
  all_goals have hF := ((hX13.set_ 0 (.int .i64 va)).set_ 1 (.slice a9 n9 c9)).set_ 2 (.int .i64 (m : Int))
  all_goals refine bodyPost_ret (results_rowP rfl _ _ (w.heap.size + 1 + 1 + 1) _ #[.int .i64 va, .slice a9 n9 c9, .int .i64 (m : Int)] (0, 0) _ rfl hF Tryz.underlying162 rfl (by kernel_rfl)) rfl ?_
  all_goals
    have hs0 := grown_setCell w13 (w.heap.size + 1 + 1 + 1) 0 (.int .i64 va)
    have hs1 := grown_trans hs0 (grown_setCell _ (w.heap.size + 1 + 1 + 1) 1 (.slice a9 n9 c9))
    have hs2 := grown_trans hs1 (grown_setCell _ (w.heap.size + 1 + 1 + 1) 2 (.int .i64 (m : Int)))
    refine ⟨a9, n9, c9, rfl, (hT13.grown hs2 (fun g hg => by injection hg with hg; omega)).imp (fun q hq => by omega), hk13.grown hs2 (by simp; omega), hm13.kept hs2 (by simp; omega), ?_⟩
    exact (turned_two hB10 hg11 (grown_trans (grown_of_below hdw _) hg13)).trans (Turned.ofGrown (F := [w.heap.size + 1 + 1 + 1]) hs2 (fun k hk => .inl (by injection hk with hk; simp [hk]))) (fun k hk => .inr (by simp at hk; omega))
set_option maxRecDepth 100000 in
set_option maxHeartbeats 3200000 in
theorem Do_new3 (gb gm : Nat) (hne : gb ≠ gm) (d0 a0 b0 : Int) (v : UInt64) (xa ya : Option Addr) (xn xc yn yc : Nat) (xk yk : Int) (va : Int) (n m : Nat) (hm : n + 1 = m) (hn6 : n ≤ 100000000) (D : DataW Value) (w : World) (hbk : Blk w gb 159 #[.int .i64 va, .map (some gm), .int .i64 (n : Int)]) (hown : w.ownsMap Tryz.prog 206 heldR gm n D) (hgm : gm < w.heap.size) (kl : Lit)
    (hkey : keyOf Tryz.prog 206 (doneV 3 xk yk v) = some kl) (hh : has D kl = false) (P : Nat → Prop) (A B : List Tm) (hx : TOut P w xa xn xc A) (hy : TOut P w ya yn yc B) (hQA : checkP va A = true) (hQB : checkP va B = true)
    (L : List Tm) (hV : symV va 3 v A B = va) (hL : symL va 3 v A B = L) (hE : symE va 3 v A B = 0) :
    Calls Tryz.prog 86 #[.pointer (some ⟨gb, 0, none⟩), .agg #[.int .i64 3, .int .i64 d0, .int .i64 a0, .int .i64 b0, .int .u64 (v.toNat : Int)], .agg #[.int .i64 va, .slice xa xn xc, .int .i64 xk], .agg #[.int .i64 va, .slice ya yn yc, .int .i64 yk]] w (DoNew gb gm m va L D kl w) := by
  have hgb := hbk.lt
  have HL : ∀ W', Below w.heap.size w W' → (Instr.lookup 157 (.map (some gm)) (doneV 3 xk yk v) true).run Tryz.prog W' = .ok (.tuple #[st0, .bool false]) W' := fun W' hb => by
    have := book_look (hown.kept (grown_of_below hb none) (by simp)) hkey st0 (at_miss hh _)
    rw [hh] at this
    exact this
  have HRK := hide (fun (W' : World) (hb : Below w.heap.size w W') => Reckon_calls gb 3 d0 a0 b0 v (by decide) P P va xa ya xn xc yn yc A B W' (hx.belowN hb) (hy.belowN hb) hQA hQB (.map (some gm)) (.int .i64 (n : Int)) (hbk.belowN hb) va L 0 hV hL hE)
  have HOF := hide (fun (W' : World) (hb : Below w.heap.size w W') (a9 : Option Addr) (n9 c9 : Nat) => Of_callsM gb va (.map (some gm)) n m hm hn6 a9 n9 c9 W' (hbk.belowN hb) va)
  have HOW := hide (fun (W' : World) (hb : Below w.heap.size w W') => hown.kept (grown_of_below hb none) (by simp))
  have HNM : Hid (n < maxLen) := by show _ < _; unfold maxLen; omega
  have HM := hide hm
  have HKEY := hide hkey
  obtain ⟨W1, hW1⟩ : ∃ W1, W1 = (((((w.alloc (.cells #[.int .i64 3, .int .i64 d0, .int .i64 a0, .int .i64 b0, .int .u64 (v.toNat : Int)] 89)).alloc (.cells #[.int .i64 va, .slice xa xn xc, .int .i64 xk] 162)).alloc (.cells #[.int .i64 va, .slice ya yn yc, .int .i64 yk] 162)).alloc (.cells #[.int .i64 0, .slice none 0 0, .int .i64 0] 162)).alloc (.cells #[.int .i64 3, .int .i64 xk, .int .i64 yk, .int .u64 (v.toNat : Int)] 206)) := ⟨_, rfl⟩
  obtain ⟨hX1, hX2, hX3, hX4, hX5, hb0, hz0⟩ := five_boxes w 89 162 162 162 206 #[.int .i64 3, .int .i64 d0, .int .i64 a0, .int .i64 b0, .int .u64 (v.toNat : Int)] #[.int .i64 va, .slice xa xn xc, .int .i64 xk] #[.int .i64 va, .slice ya yn yc, .int .i64 yk] #[.int .i64 0, .slice none 0 0, .int .i64 0] #[.int .i64 3, .int .i64 xk, .int .i64 yk, .int .u64 (v.toNat : Int)] W1 hW1
  have hbQ := hb0.trans ((below_box W1 (.cells #[.int .i64 0, .slice none 0 0, .int .i64 0] 162)).mono hb0.size)
  have hl1 := HL _ (Below.drew (Below.drew hb0))
  have hbR := Below.drew (Below.drew hbQ)
  have hl2 := HL _ hbR
  have hX4' := (hX4.alloc (.cells #[.int .i64 0, .slice none 0 0, .int .i64 0] 162)).belowN (Below.drew (Below.drew (Below.refl _ _)))
  have hX5' := (hX5.alloc (.cells #[.int .i64 0, .slice none 0 0, .int .i64 0] 162)).belowN (Below.drew (Below.drew (Below.refl _ _)))
  have hk1 := hbk.belowN hb0
  obtain ⟨k0, k1, k2, k3, k4, k5⟩ := hk1.c3
  obtain ⟨k6, k7, k8, k9, k10, k11⟩ := (hk1.alloc (.cells #[.int .i64 0, .slice none 0 0, .int .i64 0] 162)).c3
  rw [hW1] at hl1 hl2 k0 k1 k2 k6 k7 k8 hbR hX4' hX5'
  clear HL hown hkey hh hV hL hE hx hy hm
  go_enter Tryz.func86, Tryz.ntmps86
  go_wp2
  go_region
  go_wp2
  go_region
  all_goals go_wp2_with (first
    | (go_at_call 85; go_must (have hgd := hB10; (with_reducible refine (HOF.out _ hB10 _ _ _).mono ?_); rintro vv w11 ⟨rfl, hk11, hg11⟩; have hX11 := hX10.grown hg11 (by simp; omega); have hD11 := hD10.grown hg11 (by simp; omega); have hT11 := (hT9'.belowN (below_box w9 (.cells #[.int .i64 va, .slice a9 n9 c9] 42))).grown hg11 (fun g hg => by injection hg with hg; omega); have hm11 := (HOW.out _ hB10).kept hg11 (by intro h; injection h with h; exact hne h.symm)))
    | (go_at_call 129; go_must ((with_reducible refine (HRK.out _ hbR).mono ?_); rintro vv w9 ⟨a9, n9, c9, rfl, hT9, hb9⟩; have hB9 := hbR.trans (hb9.mono hbR.size); have hT9' := hT9.imp (Q := fun q => w.heap.size + 1 + 1 + 1 < q) (fun q hq => by have := hX4'.lt; omega); have hX9 : Blk w9 (w.heap.size + 1 + 1 + 1) 162 #[.int .i64 0, .slice none 0 0, .int .i64 0] := Blk.belowN hX4' hb9; have hD9 : Blk w9 (w.heap.size + 1 + 1 + 1 + 1) 206 #[.int .i64 3, .int .i64 xk, .int .i64 yk, .int .u64 (v.toNat : Int)] := Blk.belowN hX5' hb9; have hX10 := hX9.alloc (.cells #[.int .i64 va, .slice a9 n9 c9] 42); have hD10 := hD9.alloc (.cells #[.int .i64 va, .slice a9 n9 c9] 42); have hB10 := hB9.alloc hB9.size (.cells #[.int .i64 va, .slice a9 n9 c9] 42); have hN10 := Blk.new w9 42 #[.int .i64 va, .slice a9 n9 c9]; obtain ⟨y0, y1, y2, y3⟩ := hN10.c2)))
  all_goals
    have hS12 := Blk.new w11 162 #[.int .i64 va, .slice a9 n9 c9, .int .i64 (m : Int)]
    obtain ⟨s0, s1, s2, s3, s4, s5⟩ := hS12.c3
    obtain ⟨e0, e1, e2, e3, e4, e5, e6, e7⟩ := (hD11.alloc (.cells #[.int .i64 va, .slice a9 n9 c9, .int .i64 (m : Int)] 162)).c4
    obtain ⟨f0, f1, f2, f3, f4, f5⟩ := (hk11.alloc (.cells #[.int .i64 va, .slice a9 n9 c9, .int .i64 (m : Int)] 162)).c3
    have hdw := Below.drew (below_box w11 (.cells #[.int .i64 va, .slice a9 n9 c9, .int .i64 (m : Int)] 162))
    obtain ⟨w13, hup, hm13, hg13⟩ := (hm11.kept (grown_of_below hdw none) (by simp)).update lawD Tryz.underlying157 HNM.out HKEY.out (val := .agg #[.int .i64 va, .slice a9 n9 c9, .int .i64 (m : Int)]) (d := .held (.agg #[.int .i64 va, .slice a9 n9 c9, .int .i64 (m : Int)])) (ps := []) rfl
    have hz11 := hX11.lt
    have hX13 := (hX11.belowN hdw).grown hg13 (by simp; omega)
    have hS13 := (hS12.belowN (Below.drew (Below.refl _ _))).grown hg13 (by simp; omega)
    have hk13 := (hk11.belowN hdw).grown hg13 (by intro h; injection h with h; exact hne h)
    have hT13 := (hT11.belowN hdw).grown hg13 (fun g hg => by injection hg with hg; omega)
    obtain ⟨x0, x1, x2, x3, x4, x5⟩ := hX13.c3
    obtain ⟨t0, t1, t2, t3, t4, t5⟩ := hS13.c3
    rw [HM.out] at hm13
    have hq : w.heap.size + 1 + 1 + 1 ≠ w11.heap.size := by omega
    go_region
    go_wp2
  all_goals have hF := ((hX13.set_ 0 (.int .i64 va)).set_ 1 (.slice a9 n9 c9)).set_ 2 (.int .i64 (m : Int))
  all_goals refine bodyPost_ret (results_rowP rfl _ _ (w.heap.size + 1 + 1 + 1) _ #[.int .i64 va, .slice a9 n9 c9, .int .i64 (m : Int)] (0, 0) _ rfl hF Tryz.underlying162 rfl (by kernel_rfl)) rfl ?_
  all_goals
    have hs0 := grown_setCell w13 (w.heap.size + 1 + 1 + 1) 0 (.int .i64 va)
    have hs1 := grown_trans hs0 (grown_setCell _ (w.heap.size + 1 + 1 + 1) 1 (.slice a9 n9 c9))
    have hs2 := grown_trans hs1 (grown_setCell _ (w.heap.size + 1 + 1 + 1) 2 (.int .i64 (m : Int)))
    refine ⟨a9, n9, c9, rfl, (hT13.grown hs2 (fun g hg => by injection hg with hg; omega)).imp (fun q hq => by omega), hk13.grown hs2 (by simp; omega), hm13.kept hs2 (by simp; omega), ?_⟩
    exact (turned_two hB10 hg11 (grown_trans (grown_of_below hdw _) hg13)).trans (Turned.ofGrown (F := [w.heap.size + 1 + 1 + 1]) hs2 (fun k hk => .inl (by injection hk with hk; simp [hk]))) (fun k hk => .inr (by simp at hk; omega))
set_option maxRecDepth 100000 in
set_option maxHeartbeats 3200000 in
theorem Do_new4 (gb gm : Nat) (hne : gb ≠ gm) (d0 a0 b0 : Int) (v : UInt64) (xa ya : Option Addr) (xn xc yn yc : Nat) (xk yk : Int) (va : Int) (n m : Nat) (hm : n + 1 = m) (hn6 : n ≤ 100000000) (D : DataW Value) (w : World) (hbk : Blk w gb 159 #[.int .i64 va, .map (some gm), .int .i64 (n : Int)]) (hown : w.ownsMap Tryz.prog 206 heldR gm n D) (hgm : gm < w.heap.size) (kl : Lit)
    (hkey : keyOf Tryz.prog 206 (doneV 4 xk 0 v) = some kl) (hh : has D kl = false) (P : Nat → Prop) (A B : List Tm) (hx : TOut P w xa xn xc A) (hy : TOut P w ya yn yc B) (hQA : checkP va A = true) (hQB : checkP va B = true)
    (L : List Tm) (hV : symV va 4 v A B = va) (hL : symL va 4 v A B = L) (hE : symE va 4 v A B = 0) :
    Calls Tryz.prog 86 #[.pointer (some ⟨gb, 0, none⟩), .agg #[.int .i64 4, .int .i64 d0, .int .i64 a0, .int .i64 b0, .int .u64 (v.toNat : Int)], .agg #[.int .i64 va, .slice xa xn xc, .int .i64 xk], .agg #[.int .i64 va, .slice ya yn yc, .int .i64 yk]] w (DoNew gb gm m va L D kl w) := by
  have hgb := hbk.lt
  have HL : ∀ W', Below w.heap.size w W' → (Instr.lookup 157 (.map (some gm)) (doneV 4 xk 0 v) true).run Tryz.prog W' = .ok (.tuple #[st0, .bool false]) W' := fun W' hb => by
    have := book_look (hown.kept (grown_of_below hb none) (by simp)) hkey st0 (at_miss hh _)
    rw [hh] at this
    exact this
  have HRK := hide (fun (W' : World) (hb : Below w.heap.size w W') => Reckon_calls gb 4 d0 a0 b0 v (by decide) P P va xa ya xn xc yn yc A B W' (hx.belowN hb) (hy.belowN hb) hQA hQB (.map (some gm)) (.int .i64 (n : Int)) (hbk.belowN hb) va L 0 hV hL hE)
  have HOF := hide (fun (W' : World) (hb : Below w.heap.size w W') (a9 : Option Addr) (n9 c9 : Nat) => Of_callsM gb va (.map (some gm)) n m hm hn6 a9 n9 c9 W' (hbk.belowN hb) va)
  have HOW := hide (fun (W' : World) (hb : Below w.heap.size w W') => hown.kept (grown_of_below hb none) (by simp))
  have HNM : Hid (n < maxLen) := by show _ < _; unfold maxLen; omega
  have HM := hide hm
  have HKEY := hide hkey
  obtain ⟨W1, hW1⟩ : ∃ W1, W1 = (((((w.alloc (.cells #[.int .i64 4, .int .i64 d0, .int .i64 a0, .int .i64 b0, .int .u64 (v.toNat : Int)] 89)).alloc (.cells #[.int .i64 va, .slice xa xn xc, .int .i64 xk] 162)).alloc (.cells #[.int .i64 va, .slice ya yn yc, .int .i64 yk] 162)).alloc (.cells #[.int .i64 0, .slice none 0 0, .int .i64 0] 162)).alloc (.cells #[.int .i64 4, .int .i64 xk, .int .i64 0, .int .u64 (v.toNat : Int)] 206)) := ⟨_, rfl⟩
  obtain ⟨hX1, hX2, hX3, hX4, hX5, hb0, hz0⟩ := five_boxes w 89 162 162 162 206 #[.int .i64 4, .int .i64 d0, .int .i64 a0, .int .i64 b0, .int .u64 (v.toNat : Int)] #[.int .i64 va, .slice xa xn xc, .int .i64 xk] #[.int .i64 va, .slice ya yn yc, .int .i64 yk] #[.int .i64 0, .slice none 0 0, .int .i64 0] #[.int .i64 4, .int .i64 xk, .int .i64 0, .int .u64 (v.toNat : Int)] W1 hW1
  have hbQ := hb0.trans ((below_box W1 (.cells #[.int .i64 0, .slice none 0 0, .int .i64 0] 162)).mono hb0.size)
  have hl1 := HL _ (Below.drew hb0)
  have hbR := Below.drew hbQ
  have hl2 := HL _ hbR
  have hX4' := (hX4.alloc (.cells #[.int .i64 0, .slice none 0 0, .int .i64 0] 162)).belowN (Below.drew (Below.refl _ _))
  have hX5' := (hX5.alloc (.cells #[.int .i64 0, .slice none 0 0, .int .i64 0] 162)).belowN (Below.drew (Below.refl _ _))
  have hk1 := hbk.belowN hb0
  obtain ⟨k0, k1, k2, k3, k4, k5⟩ := hk1.c3
  obtain ⟨k6, k7, k8, k9, k10, k11⟩ := (hk1.alloc (.cells #[.int .i64 0, .slice none 0 0, .int .i64 0] 162)).c3
  rw [hW1] at hl1 hl2 k0 k1 k2 k6 k7 k8 hbR hX4' hX5'
  clear HL hown hkey hh hV hL hE hx hy hm
  go_enter Tryz.func86, Tryz.ntmps86
  go_wp2
  go_region
  all_goals go_wp2_with (first
    | (go_at_call 85; go_must (have hgd := hB10; (with_reducible refine (HOF.out _ hB10 _ _ _).mono ?_); rintro vv w11 ⟨rfl, hk11, hg11⟩; have hX11 := hX10.grown hg11 (by simp; omega); have hD11 := hD10.grown hg11 (by simp; omega); have hT11 := (hT9'.belowN (below_box w9 (.cells #[.int .i64 va, .slice a9 n9 c9] 42))).grown hg11 (fun g hg => by injection hg with hg; omega); have hm11 := (HOW.out _ hB10).kept hg11 (by intro h; injection h with h; exact hne h.symm)))
    | (go_at_call 129; go_must ((with_reducible refine (HRK.out _ hbR).mono ?_); rintro vv w9 ⟨a9, n9, c9, rfl, hT9, hb9⟩; have hB9 := hbR.trans (hb9.mono hbR.size); have hT9' := hT9.imp (Q := fun q => w.heap.size + 1 + 1 + 1 < q) (fun q hq => by have := hX4'.lt; omega); have hX9 : Blk w9 (w.heap.size + 1 + 1 + 1) 162 #[.int .i64 0, .slice none 0 0, .int .i64 0] := Blk.belowN hX4' hb9; have hD9 : Blk w9 (w.heap.size + 1 + 1 + 1 + 1) 206 #[.int .i64 4, .int .i64 xk, .int .i64 0, .int .u64 (v.toNat : Int)] := Blk.belowN hX5' hb9; have hX10 := hX9.alloc (.cells #[.int .i64 va, .slice a9 n9 c9] 42); have hD10 := hD9.alloc (.cells #[.int .i64 va, .slice a9 n9 c9] 42); have hB10 := hB9.alloc hB9.size (.cells #[.int .i64 va, .slice a9 n9 c9] 42); have hN10 := Blk.new w9 42 #[.int .i64 va, .slice a9 n9 c9]; obtain ⟨y0, y1, y2, y3⟩ := hN10.c2)))
  all_goals
    have hS12 := Blk.new w11 162 #[.int .i64 va, .slice a9 n9 c9, .int .i64 (m : Int)]
    obtain ⟨s0, s1, s2, s3, s4, s5⟩ := hS12.c3
    obtain ⟨e0, e1, e2, e3, e4, e5, e6, e7⟩ := (hD11.alloc (.cells #[.int .i64 va, .slice a9 n9 c9, .int .i64 (m : Int)] 162)).c4
    obtain ⟨f0, f1, f2, f3, f4, f5⟩ := (hk11.alloc (.cells #[.int .i64 va, .slice a9 n9 c9, .int .i64 (m : Int)] 162)).c3
    have hdw := Below.drew (below_box w11 (.cells #[.int .i64 va, .slice a9 n9 c9, .int .i64 (m : Int)] 162))
    obtain ⟨w13, hup, hm13, hg13⟩ := (hm11.kept (grown_of_below hdw none) (by simp)).update lawD Tryz.underlying157 HNM.out HKEY.out (val := .agg #[.int .i64 va, .slice a9 n9 c9, .int .i64 (m : Int)]) (d := .held (.agg #[.int .i64 va, .slice a9 n9 c9, .int .i64 (m : Int)])) (ps := []) rfl
    have hz11 := hX11.lt
    have hX13 := (hX11.belowN hdw).grown hg13 (by simp; omega)
    have hS13 := (hS12.belowN (Below.drew (Below.refl _ _))).grown hg13 (by simp; omega)
    have hk13 := (hk11.belowN hdw).grown hg13 (by intro h; injection h with h; exact hne h)
    have hT13 := (hT11.belowN hdw).grown hg13 (fun g hg => by injection hg with hg; omega)
    obtain ⟨x0, x1, x2, x3, x4, x5⟩ := hX13.c3
    obtain ⟨t0, t1, t2, t3, t4, t5⟩ := hS13.c3
    rw [HM.out] at hm13
    have hq : w.heap.size + 1 + 1 + 1 ≠ w11.heap.size := by omega
    go_region
    go_wp2
  all_goals have hF := ((hX13.set_ 0 (.int .i64 va)).set_ 1 (.slice a9 n9 c9)).set_ 2 (.int .i64 (m : Int))
  all_goals refine bodyPost_ret (results_rowP rfl _ _ (w.heap.size + 1 + 1 + 1) _ #[.int .i64 va, .slice a9 n9 c9, .int .i64 (m : Int)] (0, 0) _ rfl hF Tryz.underlying162 rfl (by kernel_rfl)) rfl ?_
  all_goals
    have hs0 := grown_setCell w13 (w.heap.size + 1 + 1 + 1) 0 (.int .i64 va)
    have hs1 := grown_trans hs0 (grown_setCell _ (w.heap.size + 1 + 1 + 1) 1 (.slice a9 n9 c9))
    have hs2 := grown_trans hs1 (grown_setCell _ (w.heap.size + 1 + 1 + 1) 2 (.int .i64 (m : Int)))
    refine ⟨a9, n9, c9, rfl, (hT13.grown hs2 (fun g hg => by injection hg with hg; omega)).imp (fun q hq => by omega), hk13.grown hs2 (by simp; omega), hm13.kept hs2 (by simp; omega), ?_⟩
    exact (turned_two hB10 hg11 (grown_trans (grown_of_below hdw _) hg13)).trans (Turned.ofGrown (F := [w.heap.size + 1 + 1 + 1]) hs2 (fun k hk => .inl (by injection hk with hk; simp [hk]))) (fun k hk => .inr (by simp at hk; omega))
set_option maxRecDepth 100000 in
set_option maxHeartbeats 3200000 in
theorem Do_new5 (gb gm : Nat) (hne : gb ≠ gm) (d0 a0 b0 : Int) (v : UInt64) (xa ya : Option Addr) (xn xc yn yc : Nat) (xk yk : Int) (va : Int) (n m : Nat) (hm : n + 1 = m) (hn6 : n ≤ 100000000) (D : DataW Value) (w : World) (hbk : Blk w gb 159 #[.int .i64 va, .map (some gm), .int .i64 (n : Int)]) (hown : w.ownsMap Tryz.prog 206 heldR gm n D) (hgm : gm < w.heap.size) (kl : Lit)
    (hkey : keyOf Tryz.prog 206 (doneV 5 0 0 v) = some kl) (hh : has D kl = false) (P : Nat → Prop) (A B : List Tm) (hx : TOut P w xa xn xc A) (hy : TOut P w ya yn yc B) (hQA : checkP va A = true) (hQB : checkP va B = true)
    (L : List Tm) (hV : symV va 5 v A B = va) (hL : symL va 5 v A B = L) (hE : symE va 5 v A B = 0) :
    Calls Tryz.prog 86 #[.pointer (some ⟨gb, 0, none⟩), .agg #[.int .i64 5, .int .i64 d0, .int .i64 a0, .int .i64 b0, .int .u64 (v.toNat : Int)], .agg #[.int .i64 va, .slice xa xn xc, .int .i64 xk], .agg #[.int .i64 va, .slice ya yn yc, .int .i64 yk]] w (DoNew gb gm m va L D kl w) := by
  have hgb := hbk.lt
  have HL : ∀ W', Below w.heap.size w W' → (Instr.lookup 157 (.map (some gm)) (doneV 5 0 0 v) true).run Tryz.prog W' = .ok (.tuple #[st0, .bool false]) W' := fun W' hb => by
    have := book_look (hown.kept (grown_of_below hb none) (by simp)) hkey st0 (at_miss hh _)
    rw [hh] at this
    exact this
  have HRK := hide (fun (W' : World) (hb : Below w.heap.size w W') => Reckon_calls gb 5 d0 a0 b0 v (by decide) P P va xa ya xn xc yn yc A B W' (hx.belowN hb) (hy.belowN hb) hQA hQB (.map (some gm)) (.int .i64 (n : Int)) (hbk.belowN hb) va L 0 hV hL hE)
  have HOF := hide (fun (W' : World) (hb : Below w.heap.size w W') (a9 : Option Addr) (n9 c9 : Nat) => Of_callsM gb va (.map (some gm)) n m hm hn6 a9 n9 c9 W' (hbk.belowN hb) va)
  have HOW := hide (fun (W' : World) (hb : Below w.heap.size w W') => hown.kept (grown_of_below hb none) (by simp))
  have HNM : Hid (n < maxLen) := by show _ < _; unfold maxLen; omega
  have HM := hide hm
  have HKEY := hide hkey
  obtain ⟨W1, hW1⟩ : ∃ W1, W1 = (((((w.alloc (.cells #[.int .i64 5, .int .i64 d0, .int .i64 a0, .int .i64 b0, .int .u64 (v.toNat : Int)] 89)).alloc (.cells #[.int .i64 va, .slice xa xn xc, .int .i64 xk] 162)).alloc (.cells #[.int .i64 va, .slice ya yn yc, .int .i64 yk] 162)).alloc (.cells #[.int .i64 0, .slice none 0 0, .int .i64 0] 162)).alloc (.cells #[.int .i64 5, .int .i64 0, .int .i64 0, .int .u64 (v.toNat : Int)] 206)) := ⟨_, rfl⟩
  obtain ⟨hX1, hX2, hX3, hX4, hX5, hb0, hz0⟩ := five_boxes w 89 162 162 162 206 #[.int .i64 5, .int .i64 d0, .int .i64 a0, .int .i64 b0, .int .u64 (v.toNat : Int)] #[.int .i64 va, .slice xa xn xc, .int .i64 xk] #[.int .i64 va, .slice ya yn yc, .int .i64 yk] #[.int .i64 0, .slice none 0 0, .int .i64 0] #[.int .i64 5, .int .i64 0, .int .i64 0, .int .u64 (v.toNat : Int)] W1 hW1
  have hbQ := hb0.trans ((below_box W1 (.cells #[.int .i64 0, .slice none 0 0, .int .i64 0] 162)).mono hb0.size)
  have hl1 := HL _ (Below.drew hb0)
  have hbR := Below.drew hbQ
  have hl2 := HL _ hbR
  have hX4' := (hX4.alloc (.cells #[.int .i64 0, .slice none 0 0, .int .i64 0] 162)).belowN (Below.drew (Below.refl _ _))
  have hX5' := (hX5.alloc (.cells #[.int .i64 0, .slice none 0 0, .int .i64 0] 162)).belowN (Below.drew (Below.refl _ _))
  have hk1 := hbk.belowN hb0
  obtain ⟨k0, k1, k2, k3, k4, k5⟩ := hk1.c3
  obtain ⟨k6, k7, k8, k9, k10, k11⟩ := (hk1.alloc (.cells #[.int .i64 0, .slice none 0 0, .int .i64 0] 162)).c3
  rw [hW1] at hl1 hl2 k0 k1 k2 k6 k7 k8 hbR hX4' hX5'
  clear HL hown hkey hh hV hL hE hx hy hm
  go_enter Tryz.func86, Tryz.ntmps86
  go_wp2
  go_region
  all_goals go_wp2_with (first
    | (go_at_call 85; go_must (have hgd := hB10; (with_reducible refine (HOF.out _ hB10 _ _ _).mono ?_); rintro vv w11 ⟨rfl, hk11, hg11⟩; have hX11 := hX10.grown hg11 (by simp; omega); have hD11 := hD10.grown hg11 (by simp; omega); have hT11 := (hT9'.belowN (below_box w9 (.cells #[.int .i64 va, .slice a9 n9 c9] 42))).grown hg11 (fun g hg => by injection hg with hg; omega); have hm11 := (HOW.out _ hB10).kept hg11 (by intro h; injection h with h; exact hne h.symm)))
    | (go_at_call 129; go_must ((with_reducible refine (HRK.out _ hbR).mono ?_); rintro vv w9 ⟨a9, n9, c9, rfl, hT9, hb9⟩; have hB9 := hbR.trans (hb9.mono hbR.size); have hT9' := hT9.imp (Q := fun q => w.heap.size + 1 + 1 + 1 < q) (fun q hq => by have := hX4'.lt; omega); have hX9 : Blk w9 (w.heap.size + 1 + 1 + 1) 162 #[.int .i64 0, .slice none 0 0, .int .i64 0] := Blk.belowN hX4' hb9; have hD9 : Blk w9 (w.heap.size + 1 + 1 + 1 + 1) 206 #[.int .i64 5, .int .i64 0, .int .i64 0, .int .u64 (v.toNat : Int)] := Blk.belowN hX5' hb9; have hX10 := hX9.alloc (.cells #[.int .i64 va, .slice a9 n9 c9] 42); have hD10 := hD9.alloc (.cells #[.int .i64 va, .slice a9 n9 c9] 42); have hB10 := hB9.alloc hB9.size (.cells #[.int .i64 va, .slice a9 n9 c9] 42); have hN10 := Blk.new w9 42 #[.int .i64 va, .slice a9 n9 c9]; obtain ⟨y0, y1, y2, y3⟩ := hN10.c2)))
  all_goals
    have hS12 := Blk.new w11 162 #[.int .i64 va, .slice a9 n9 c9, .int .i64 (m : Int)]
    obtain ⟨s0, s1, s2, s3, s4, s5⟩ := hS12.c3
    obtain ⟨e0, e1, e2, e3, e4, e5, e6, e7⟩ := (hD11.alloc (.cells #[.int .i64 va, .slice a9 n9 c9, .int .i64 (m : Int)] 162)).c4
    obtain ⟨f0, f1, f2, f3, f4, f5⟩ := (hk11.alloc (.cells #[.int .i64 va, .slice a9 n9 c9, .int .i64 (m : Int)] 162)).c3
    have hdw := Below.drew (below_box w11 (.cells #[.int .i64 va, .slice a9 n9 c9, .int .i64 (m : Int)] 162))
    obtain ⟨w13, hup, hm13, hg13⟩ := (hm11.kept (grown_of_below hdw none) (by simp)).update lawD Tryz.underlying157 HNM.out HKEY.out (val := .agg #[.int .i64 va, .slice a9 n9 c9, .int .i64 (m : Int)]) (d := .held (.agg #[.int .i64 va, .slice a9 n9 c9, .int .i64 (m : Int)])) (ps := []) rfl
    have hz11 := hX11.lt
    have hX13 := (hX11.belowN hdw).grown hg13 (by simp; omega)
    have hS13 := (hS12.belowN (Below.drew (Below.refl _ _))).grown hg13 (by simp; omega)
    have hk13 := (hk11.belowN hdw).grown hg13 (by intro h; injection h with h; exact hne h)
    have hT13 := (hT11.belowN hdw).grown hg13 (fun g hg => by injection hg with hg; omega)
    obtain ⟨x0, x1, x2, x3, x4, x5⟩ := hX13.c3
    obtain ⟨t0, t1, t2, t3, t4, t5⟩ := hS13.c3
    rw [HM.out] at hm13
    have hq : w.heap.size + 1 + 1 + 1 ≠ w11.heap.size := by omega
    go_region
    go_wp2
  all_goals have hF := ((hX13.set_ 0 (.int .i64 va)).set_ 1 (.slice a9 n9 c9)).set_ 2 (.int .i64 (m : Int))
  all_goals refine bodyPost_ret (results_rowP rfl _ _ (w.heap.size + 1 + 1 + 1) _ #[.int .i64 va, .slice a9 n9 c9, .int .i64 (m : Int)] (0, 0) _ rfl hF Tryz.underlying162 rfl (by kernel_rfl)) rfl ?_
  all_goals
    have hs0 := grown_setCell w13 (w.heap.size + 1 + 1 + 1) 0 (.int .i64 va)
    have hs1 := grown_trans hs0 (grown_setCell _ (w.heap.size + 1 + 1 + 1) 1 (.slice a9 n9 c9))
    have hs2 := grown_trans hs1 (grown_setCell _ (w.heap.size + 1 + 1 + 1) 2 (.int .i64 (m : Int)))
    refine ⟨a9, n9, c9, rfl, (hT13.grown hs2 (fun g hg => by injection hg with hg; omega)).imp (fun q hq => by omega), hk13.grown hs2 (by simp; omega), hm13.kept hs2 (by simp; omega), ?_⟩
    exact (turned_two hB10 hg11 (grown_trans (grown_of_below hdw _) hg13)).trans (Turned.ofGrown (F := [w.heap.size + 1 + 1 + 1]) hs2 (fun k hk => .inl (by injection hk with hk; simp [hk]))) (fun k hk => .inr (by simp at hk; omega))
end Go.Proofs.YtcamcnahkdiefaaGreat

/- symbol.do, whatever the operation and whether its state is known or not. -/
namespace Go.Proofs.YtcamcnahkdiefaaGreat
set_option linter.unusedVariables false
set_option linter.unusedSimpArgs false
open Go.RowKit Go.Maps
theorem AtTP.turned {P : Nat → Prop} {F : List Nat} {w w' : World} {a : Option Addr} {ts : List Tm} (h : AtTP P w a ts) (hT : Turned F w w') (hF : ∀ g ∈ F, ¬ P g) : AtTP P w' a ts := by
  obtain ⟨hs, h1, h2, h3, h4, h5⟩ := h
  refine ⟨hs, h1.turned hT (fun hne g hg e => ?_), h2, fun j y t e1 e2 => ?_, h4, h5⟩
  · have htn : ts ≠ [] := by rintro rfl; exact hne (List.eq_nil_of_length_eq_zero h2)
    exact hF g hg (h4 htn g e)
  · obtain ⟨k1, k2, k3, k4, k5⟩ := h3 j y t e1 e2
    exact ⟨k1, k2, k3, k4, k5.turned hT (fun hne g hg e => hF g hg (h5 j y t e1 e2 hne g e))⟩
theorem TOut.turned {P : Nat → Prop} {F : List Nat} {w w' : World} {a : Option Addr} {n c : Nat} {M : List Tm} (h : TOut P w a n c M) (hT : Turned F w w') (hF : ∀ g ∈ F, ¬ P g) : TOut P w' a n c M := ⟨h.len, h.cap, h.max, h.at_.turned hT hF⟩
theorem StOk.turned {P : Nat → Prop} {F : List Nat} {w w' : World} {va : Int} {PL : List (List Tm)} {y : StH} {L : List Tm} (h : StOk P w va PL y L) (hT : Turned F w w') (hF : ∀ g ∈ F, ¬ P g) : StOk P w' va PL y L := ⟨h.v, h.t.turned hT hF, h.k1, h.k2⟩
theorem Known.turned {P : Nat → Prop} {F : List Nat} {w w' : World} {va : Int} {PL : List (List Tm)} {D : DataW Value} (h : Known P w va PL D) (hT : Turned F w w') (hF : ∀ g ∈ F, ¬ P g) : Known P w' va PL D := fun k a b v kl h1 h2 => by
  obtain ⟨y, L, A, B, e1, e2, e3, e4, e5, e6⟩ := h k a b v kl h1 h2
  exact ⟨y, L, A, B, e1, e2.turned hT hF, e3, e4, e5, e6⟩
theorem BookM.belowN {P : Nat → Prop} {w w' : World} {gb gm : Nat} {va : Int} {PL : List (List Tm)} {D : DataW Value} (h : BookM P w gb gm va PL D) (hb : Below w.heap.size w w') : BookM P w' gb gm va PL D :=
  ⟨h.blk.belowN hb, h.map.kept (grown_of_below hb none) (by simp), h.known.grown (grown_of_below hb none) (by simp)⟩
theorem BookM.grown {P : Nat → Prop} {w w' : World} {gb gm : Nat} {va : Int} {PL : List (List Tm)} {D : DataW Value} {g : Nat} (h : BookM P w gb gm va PL D) (hb : w.grownBy w' (some g)) (h1 : g ≠ gb) (h2 : g ≠ gm) (h3 : ¬ P g) : BookM P w' gb gm va PL D :=
  ⟨h.blk.grown hb (by simp; exact fun e => h1 e.symm), h.map.kept hb (by simp; exact fun e => h2 e.symm), h.known.grown hb (fun q hq => by injection hq with hq; subst hq; exact h3)⟩
theorem map_lt {w : World} {gm n : Nat} {D : DataW Value} (h : w.ownsMap Tryz.prog 206 heldR gm n D) : gm < w.heap.size := by
  obtain ⟨es, clock, hb, _⟩ := h
  exact (Array.getElem?_eq_some_iff.1 hb).1
theorem wf_i64 {n : Int} (h0 : 0 ≤ n) (h : n ≤ 1000000000) : (Lit.int .i64 n).wf = true := WalkArith.wf_i64 (by omega)
def DoneAs (P : Nat → Prop) (gb gm : Nat) (va : Int) (PL : List (List Tm)) (E : Int) (L : List Tm) (w : World) (e : Ending) (w' : World) : Prop :=
  ∃ z : StH, e = .returned (.tuple #[stV z, .int .i64 E]) ∧ Turned [gb, gm] w w' ∧ (E = 0 → ∃ (ext : List (List Tm)) (D' : DataW Value), StOk P w' va (PL ++ ext) z L ∧ BookM P w' gb gm va (PL ++ ext) D' ∧ ext.length ≤ 1)
theorem StOk.kle {P : Nat → Prop} {w : World} {va : Int} {PL : List (List Tm)} {y : StH} {L : List Tm} (h : StOk P w va PL y L) : y.k ≤ PL.length := by
  have := (List.getElem?_eq_some_iff.1 h.k2).1
  have := h.k1
  omega
theorem hit_as {P : Nat → Prop} {gb gm : Nat} {va : Int} {PL : List (List Tm)} {D : DataW Value} {w : World} (hB : BookM P w gb gm va PL D) {z : StH} {L : List Tm} {E : Int} (hE : E = 0) (hz : StOk P w va PL z L) (e : Ending) (w' : World) (h : e = .returned (.tuple #[stV z, .int .i64 0]) ∧ Below w.heap.size w w') :
    DoneAs P gb gm va PL E L w e w' := by
  obtain ⟨rfl, hb⟩ := h
  subst hE
  exact ⟨z, rfl, Turned.ofBelow hb, fun _ => ⟨[], D, by rw [List.append_nil]; exact hz.belowN hb, by rw [List.append_nil]; exact hB.belowN hb, by simp⟩⟩
theorem miss_as {P : Nat → Prop} {gb gm : Nat} {va : Int} {PL : List (List Tm)} {w : World} {L : List Tm} {E : Int} (hE : E ≠ 0) (e : Ending) (w' : World) (h : e = .returned (.tuple #[st0, .int .i64 E]) ∧ Below w.heap.size w w') :
    DoneAs P gb gm va PL E L w e w' := by
  obtain ⟨rfl, hb⟩ := h
  exact ⟨⟨0, none, 0, 0, 0⟩, rfl, Turned.ofBelow hb, fun h => absurd h hE⟩
theorem new_as {P : Nat → Prop} {gb gm : Nat} {va : Int} {PL : List (List Tm)} {D : DataW Value} {w : World} (hB : BookM P w gb gm va PL D) (hP : ∀ q, w.heap.size ≤ q → P q) (hPb : ¬ P gb) (hPm : ¬ P gm) {k a b : Int} {v : UInt64} {kl : Lit} (hkey : keyOf Tryz.prog 206 (doneV k a b v) = some kl) {A B L : List Tm} {E : Int} (h0 : E = 0)
    (hA : k ≤ 4 → PL[(a - 1).toNat]? = some A) (hBB : k ≤ 3 → PL[(b - 1).toNat]? = some B) (hE : symE va k v A B = 0) (hL : symL va k v A B = L) (e : Ending) (w' : World) (h : DoNew gb gm (PL.length + 1) va L D kl w e w') : DoneAs P gb gm va PL E L w e w' := by
  obtain ⟨a9, n9, c9, rfl, hT, hbk, hmp, hTu⟩ := h
  subst h0
  have hF : ∀ g ∈ [gb, gm], ¬ P g := fun g hg => by simp at hg; rcases hg with rfl | rfl <;> assumption
  have hSt : StOk P w' va (PL ++ [L]) ⟨va, a9, n9, c9, ((PL.length + 1 : Nat) : Int)⟩ L := ⟨rfl, hT.imp hP, by simp; omega, by simp⟩
  refine ⟨⟨va, a9, n9, c9, ((PL.length + 1 : Nat) : Int)⟩, rfl, hTu, fun _ => ⟨[L], D.put kl (.held (stV ⟨va, a9, n9, c9, ((PL.length + 1 : Nat) : Int)⟩)), hSt, ⟨?_, ?_, ?_⟩, by simp⟩⟩
  · rw [List.length_append]; exact hbk
  · rw [List.length_append]; exact hmp
  · exact ((hB.known.turned hTu hF).more [L]).put hB.map.isMap hkey hSt (fun hk => getE_app (hA hk)) (fun hk => getE_app (hBB hk)) hE hL
set_option maxRecDepth 100000 in
set_option maxHeartbeats 1600000 in
theorem Do_calls (gb gm : Nat) (hne : gb ≠ gm) (k d0 a0 b0 : Int) (v : UInt64) (hk : 1 ≤ k ∧ k ≤ 6) (P : Nat → Prop) (va : Int) (PL : List (List Tm)) (hPL : PL.length ≤ 100000000) (D : DataW Value) (x y : StH) (A B : List Tm) (w : World)
    (hB : BookM P w gb gm va PL D) (hP : ∀ q, w.heap.size ≤ q → P q) (hPb : ¬ P gb) (hPm : ¬ P gm) (hx : StOk P w va PL x A) (hy : StOk P w va PL y B) (hQA : checkP va A = true) (hQB : checkP va B = true)
    (L : List Tm) (E : Int) (hL : symL va k v A B = L) (hE : symE va k v A B = E) :
    Calls Tryz.prog 86 #[.pointer (some ⟨gb, 0, none⟩), .agg #[.int .i64 k, .int .i64 d0, .int .i64 a0, .int .i64 b0, .int .u64 (v.toNat : Int)], stV x, stV y] w (DoneAs P gb gm va PL E L w) := by
  have x1 := hx.k1
  have x2 := hx.kle
  have y1 := hy.k1
  have y2 := hy.kle
  have wx := wf_i64 (n := x.k) (by omega) (by omega)
  have wy := wf_i64 (n := y.k) (by omega) (by omega)
  have w0 : (Lit.int .i64 0).wf = true := by decide
  have xv : stV x = .agg #[.int .i64 va, .slice x.a x.n x.c, .int .i64 x.k] := by rw [← hx.v]
  have yv : stV y = .agg #[.int .i64 va, .slice y.a y.n y.c, .int .i64 y.k] := by rw [← hy.v]
  have hgm := map_lt hB.map
  have hV : E = 0 → symV va k v A B = va := fun h => (sym_fine hQA (hE.trans h)).1
  have hc : k = 1 ∨ k = 2 ∨ k = 3 ∨ k = 4 ∨ k = 5 ∨ k = 6 := by omega
  rcases hc with rfl | rfl | rfl | rfl | rfl | rfl
  · obtain ⟨kl, hkey⟩ := keyD 1 x.k y.k v (by decide) wx wy
    by_cases hh : has D kl = true
    · obtain ⟨z, L', e1, e2, e3, e4⟩ := hB.known.hit hkey hh (by decide) (fun _ => hx.k2) (fun _ => hy.k2)
      refine (Do_hit1 gb gm d0 a0 b0 v x y z va _ D w _ hB.blk hB.map kl hkey hh (e1 _)).mono fun e w' h => ?_
      have e5 : L' = L := e4.symm.trans hL
      subst e5
      exact hit_as hB (hE.symm.trans e3) e2 e w' h
    · have hh' : has D kl = false := by simpa using hh
      by_cases h0 : E = 0
      · rw [xv, yv]
        exact (Do_new1 gb gm hne d0 a0 b0 v x.a y.a x.n x.c y.n y.c x.k y.k va _ _ rfl hPL D w hB.blk hB.map hgm kl hkey hh' P A B hx.t hy.t hQA hQB L (hV h0) hL (hE.trans h0)).mono fun e w' h => new_as hB hP hPb hPm hkey h0 (fun _ => hx.k2) (fun _ => hy.k2) (hE.trans h0) hL e w' h
      · rw [xv, yv]
        exact (Do_miss1 gb gm d0 a0 b0 v x.a y.a x.n x.c y.n y.c x.k y.k va _ D w _ hB.blk hB.map kl hkey hh' P A B hx.t hy.t hQA hQB _ L E rfl hL hE h0).mono fun e w' h => miss_as h0 e w' h
  · obtain ⟨kl, hkey⟩ := keyD 2 x.k y.k v (by decide) wx wy
    by_cases hh : has D kl = true
    · obtain ⟨z, L', e1, e2, e3, e4⟩ := hB.known.hit hkey hh (by decide) (fun _ => hx.k2) (fun _ => hy.k2)
      refine (Do_hit2 gb gm d0 a0 b0 v x y z va _ D w _ hB.blk hB.map kl hkey hh (e1 _)).mono fun e w' h => ?_
      have e5 : L' = L := e4.symm.trans hL
      subst e5
      exact hit_as hB (hE.symm.trans e3) e2 e w' h
    · have hh' : has D kl = false := by simpa using hh
      by_cases h0 : E = 0
      · rw [xv, yv]
        exact (Do_new2 gb gm hne d0 a0 b0 v x.a y.a x.n x.c y.n y.c x.k y.k va _ _ rfl hPL D w hB.blk hB.map hgm kl hkey hh' P A B hx.t hy.t hQA hQB L (hV h0) hL (hE.trans h0)).mono fun e w' h => new_as hB hP hPb hPm hkey h0 (fun _ => hx.k2) (fun _ => hy.k2) (hE.trans h0) hL e w' h
      · rw [xv, yv]
        exact (Do_miss2 gb gm d0 a0 b0 v x.a y.a x.n x.c y.n y.c x.k y.k va _ D w _ hB.blk hB.map kl hkey hh' P A B hx.t hy.t hQA hQB _ L E rfl hL hE h0).mono fun e w' h => miss_as h0 e w' h
  · obtain ⟨kl, hkey⟩ := keyD 3 x.k y.k v (by decide) wx wy
    by_cases hh : has D kl = true
    · obtain ⟨z, L', e1, e2, e3, e4⟩ := hB.known.hit hkey hh (by decide) (fun _ => hx.k2) (fun _ => hy.k2)
      refine (Do_hit3 gb gm d0 a0 b0 v x y z va _ D w _ hB.blk hB.map kl hkey hh (e1 _)).mono fun e w' h => ?_
      have e5 : L' = L := e4.symm.trans hL
      subst e5
      exact hit_as hB (hE.symm.trans e3) e2 e w' h
    · have hh' : has D kl = false := by simpa using hh
      by_cases h0 : E = 0
      · rw [xv, yv]
        exact (Do_new3 gb gm hne d0 a0 b0 v x.a y.a x.n x.c y.n y.c x.k y.k va _ _ rfl hPL D w hB.blk hB.map hgm kl hkey hh' P A B hx.t hy.t hQA hQB L (hV h0) hL (hE.trans h0)).mono fun e w' h => new_as hB hP hPb hPm hkey h0 (fun _ => hx.k2) (fun _ => hy.k2) (hE.trans h0) hL e w' h
      · rw [xv, yv]
        exact (Do_miss3 gb gm d0 a0 b0 v x.a y.a x.n x.c y.n y.c x.k y.k va _ D w _ hB.blk hB.map kl hkey hh' P A B hx.t hy.t hQA hQB _ L E rfl hL hE h0).mono fun e w' h => miss_as h0 e w' h
  · obtain ⟨kl, hkey⟩ := keyD 4 x.k 0 v (by decide) wx w0
    by_cases hh : has D kl = true
    · obtain ⟨z, L', e1, e2, e3, e4⟩ := hB.known.hit hkey hh (by decide) (fun _ => hx.k2) (fun h => absurd h (by decide))
      refine (Do_hit4 gb gm d0 a0 b0 v x y z va _ D w _ hB.blk hB.map kl hkey hh (e1 _)).mono fun e w' h => ?_
      have e5 : L' = L := e4.symm.trans hL
      subst e5
      exact hit_as hB (hE.symm.trans e3) e2 e w' h
    · have hh' : has D kl = false := by simpa using hh
      by_cases h0 : E = 0
      · rw [xv, yv]
        exact (Do_new4 gb gm hne d0 a0 b0 v x.a y.a x.n x.c y.n y.c x.k y.k va _ _ rfl hPL D w hB.blk hB.map hgm kl hkey hh' P A B hx.t hy.t hQA hQB L (hV h0) hL (hE.trans h0)).mono fun e w' h => new_as hB hP hPb hPm hkey h0 (fun _ => hx.k2) (fun h => absurd h (by decide)) (hE.trans h0) hL e w' h
      · rw [xv, yv]
        exact (Do_miss4 gb gm d0 a0 b0 v x.a y.a x.n x.c y.n y.c x.k y.k va _ D w _ hB.blk hB.map kl hkey hh' P A B hx.t hy.t hQA hQB _ L E rfl hL hE h0).mono fun e w' h => miss_as h0 e w' h
  · obtain ⟨kl, hkey⟩ := keyD 5 0 0 v (by decide) w0 w0
    by_cases hh : has D kl = true
    · obtain ⟨z, L', e1, e2, e3, e4⟩ := hB.known.hit hkey hh (by decide) (fun h => absurd h (by decide)) (fun h => absurd h (by decide))
      refine (Do_hit5 gb gm d0 a0 b0 v x y z va _ D w _ hB.blk hB.map kl hkey hh (e1 _)).mono fun e w' h => ?_
      have e5 : L' = L := e4.symm.trans hL
      subst e5
      exact hit_as hB (hE.symm.trans e3) e2 e w' h
    · have hh' : has D kl = false := by simpa using hh
      by_cases h0 : E = 0
      · rw [xv, yv]
        exact (Do_new5 gb gm hne d0 a0 b0 v x.a y.a x.n x.c y.n y.c x.k y.k va _ _ rfl hPL D w hB.blk hB.map hgm kl hkey hh' P A B hx.t hy.t hQA hQB L (hV h0) hL (hE.trans h0)).mono fun e w' h => new_as hB hP hPb hPm hkey h0 (fun h => absurd h (by decide)) (fun h => absurd h (by decide)) (hE.trans h0) hL e w' h
      · rw [xv, yv]
        exact (Do_miss5 gb gm d0 a0 b0 v x.a y.a x.n x.c y.n y.c x.k y.k va _ D w _ hB.blk hB.map kl hkey hh' P A B hx.t hy.t hQA hQB _ L E rfl hL hE h0).mono fun e w' h => miss_as h0 e w' h
  · refine (Do_cpy gb d0 a0 b0 v x y w).mono fun e w' h => ?_
    have e2 : A = L := hL
    subst e2
    exact hit_as hB hE.symm hx e w' h
end Go.Proofs.YtcamcnahkdiefaaGreat

/- symbol.run: operations, one after the other, on polynomials; each is reckoned once. -/
namespace Go.Proofs.YtcamcnahkdiefaaGreat
set_option linter.unusedVariables false
set_option linter.unusedSimpArgs false
open Go.RowKit Go.Maps
theorem tySt : Ty Tryz.prog 160 162 StH := Ty.of (z := .agg #[.int .i64 0, .slice none 0 0, .int .i64 0]) (size := 3) (bytes := 40) Tryz.underlying160 (by kernel_rfl) rfl (by decide) rfl
theorem Own.setSt {w : World} {B : Nat} {E : TypeId} {g c : Nat} {l : List StH} (h : Own w B E (some ⟨g, 0, .none⟩) c l) {i : Nat} {x : StH} (hx : l[i]? = some x) (y : StH) :
    Own (((w.setCell ⟨g, i * 3, .none⟩ (.int .i64 y.v)).setCell ⟨g, i * 3 + 1, .none⟩ (.slice y.a y.n y.c)).setCell ⟨g, i * 3 + 2, .none⟩ (.int .i64 y.k)) B E (some ⟨g, 0, .none⟩) c (l.set i y) := by
  have hi := (List.getElem?_eq_some_iff.1 hx).1
  have h1 := h.setAt i 0 ⟨y.v, x.a, x.n, x.c, x.k⟩ x (.int .i64 y.v) hx (by decide) rfl
  have h2 := h1.setAt i 1 ⟨y.v, y.a, y.n, y.c, x.k⟩ ⟨y.v, x.a, x.n, x.c, x.k⟩ (.slice y.a y.n y.c) (by rw [List.getElem?_set, if_pos rfl, if_pos hi]) (by decide) rfl
  rw [List.set_set] at h2
  have h3 := h2.setAt i 2 y ⟨y.v, y.a, y.n, y.c, x.k⟩ (.int .i64 y.k) (by rw [List.getElem?_set, if_pos rfl, if_pos hi]) (by decide) rfl
  rw [List.set_set] at h3
  exact h3
def StsOk (P : Nat → Prop) (w : World) (va : Int) (PL : List (List Tm)) (S : List StH) (R : List (List Tm)) : Prop := S.length = R.length ∧ ∀ (i : Nat) (y : StH) (L : List Tm), S[i]? = some y → R[i]? = some L → StOk P w va PL y L
theorem StsOk.belowN {P : Nat → Prop} {w w' : World} {va : Int} {PL : List (List Tm)} {S : List StH} {R : List (List Tm)} (h : StsOk P w va PL S R) (hb : Below w.heap.size w w') : StsOk P w' va PL S R := ⟨h.1, fun i y L e1 e2 => (h.2 i y L e1 e2).belowN hb⟩
theorem StsOk.grown {P : Nat → Prop} {w w' : World} {va : Int} {PL : List (List Tm)} {S : List StH} {R : List (List Tm)} {row : Option Nat} (h : StsOk P w va PL S R) (hg : w.grownBy w' row) (hr : ∀ g, row = some g → ¬ P g) : StsOk P w' va PL S R := ⟨h.1, fun i y L e1 e2 => (h.2 i y L e1 e2).grown hg hr⟩
theorem StsOk.turned {P : Nat → Prop} {F : List Nat} {w w' : World} {va : Int} {PL : List (List Tm)} {S : List StH} {R : List (List Tm)} (h : StsOk P w va PL S R) (hT : Turned F w w') (hF : ∀ g ∈ F, ¬ P g) : StsOk P w' va PL S R := ⟨h.1, fun i y L e1 e2 => (h.2 i y L e1 e2).turned hT hF⟩
theorem StsOk.more {P : Nat → Prop} {w : World} {va : Int} {PL : List (List Tm)} {S : List StH} {R : List (List Tm)} (h : StsOk P w va PL S R) (e : List (List Tm)) : StsOk P w va (PL ++ e) S R := ⟨h.1, fun i y L e1 e2 => (h.2 i y L e1 e2).more e⟩
theorem StsOk.imp {P Q : Nat → Prop} {w : World} {va : Int} {PL : List (List Tm)} {S : List StH} {R : List (List Tm)} (h : StsOk P w va PL S R) (hi : ∀ q, P q → Q q) : StsOk Q w va PL S R := ⟨h.1, fun i y L e1 e2 => ⟨(h.2 i y L e1 e2).v, (h.2 i y L e1 e2).t.imp hi, (h.2 i y L e1 e2).k1, (h.2 i y L e1 e2).k2⟩⟩
theorem StsOk.nil (P : Nat → Prop) (w : World) (va : Int) (PL : List (List Tm)) : StsOk P w va PL [] [] := ⟨rfl, fun i y L e => by simp at e⟩
theorem StsOk.push {P : Nat → Prop} {w : World} {va : Int} {PL : List (List Tm)} {S : List StH} {R : List (List Tm)} (h : StsOk P w va PL S R) {y : StH} {L : List Tm} (hy : StOk P w va PL y L) : StsOk P w va PL (S ++ [y]) (R ++ [L]) := by
  refine ⟨by simp [h.1], fun i z M e1 e2 => ?_⟩
  by_cases hi : i < S.length
  · rw [List.getElem?_append_left hi] at e1
    rw [List.getElem?_append_left (by rw [← h.1]; exact hi)] at e2
    exact h.2 i z M e1 e2
  · have h0 : i = S.length := by
      have := List.getElem?_eq_some_iff.1 e1
      obtain ⟨h1, _⟩ := this
      simp at h1; omega
    subst h0
    rw [List.getElem?_append_right (Nat.le_refl _)] at e1
    rw [h.1, List.getElem?_append_right (Nat.le_refl _)] at e2
    simp at e1 e2
    subst e1 e2
    exact hy
theorem StsOk.set {P : Nat → Prop} {w : World} {va : Int} {PL : List (List Tm)} {S : List StH} {R : List (List Tm)} (h : StsOk P w va PL S R) {y : StH} {L : List Tm} (k : Nat) (hy : StOk P w va PL y L) : StsOk P w va PL (S.set k y) (R.set k L) := by
  refine ⟨by simp [h.1], fun i z M e1 e2 => ?_⟩
  by_cases hi : k = i
  · subst hi
    rw [List.getElem?_set] at e1 e2
    simp at e1 e2
    obtain ⟨_, rfl⟩ := e1
    obtain ⟨_, rfl⟩ := e2
    exact hy
  · rw [List.getElem?_set_ne hi] at e1 e2
    exact h.2 i z M e1 e2
theorem StsOk.get {P : Nat → Prop} {w : World} {va : Int} {PL : List (List Tm)} {S : List StH} {R : List (List Tm)} (h : StsOk P w va PL S R) {k : Nat} {y : StH} (hy : S[k]? = some y) : StOk P w va PL y (R.getD k []) := by
  have hk : k < R.length := by rw [← h.1]; exact (List.getElem?_eq_some_iff.1 hy).1
  refine h.2 k y _ hy ?_
  rw [List.getD_eq_getElem?_getD, List.getElem?_eq_getElem hk]
  rfl
theorem ne_push {a a' : Option Addr} {g n : Nat} (h : a'.map (·.block) = a.map (·.block) ∨ ∃ q, a'.map (·.block) = some q ∧ n ≤ q) (hne : a.map (·.block) ≠ some g) (hg : g < n) : a'.map (·.block) ≠ some g := by
  rcases h with e | ⟨q, e, hq⟩
  · rw [e]; exact hne
  · rw [e]; intro h; injection h with h; omega
def offR (gd gb gm q : Nat) : Prop := q ≠ gd ∧ q ≠ gb ∧ q ≠ gm
theorem tcell {F : List Nat} {w w' : World} (hT : Turned F w w') (b off : Nat) (hb : b < w.heap.size) (hn : b ∉ F) : w'.cell? ⟨b, off, none⟩ = w.cell? ⟨b, off, none⟩ ∧ w'.frozen? ⟨b, off, none⟩ = w.frozen? ⟨b, off, none⟩ := by
  have h := hT.block b hb hn
  exact ⟨by simp only [World.cell?, h], by simp only [World.frozen?, h]⟩
theorem own_ne {α : Type} [Flat α] {w : World} {B : Nat} {E : TypeId} {a : Option Addr} {c : Nat} {l : List α} (h : Own w B E a c l) {g : Nat} (hg : g < B) : a.map (·.block) ≠ some g := fun e => by have := (h.blk g e).1; omega
theorem Blk.turned {F : List Nat} {w w' : World} {g : Nat} {T : TypeId} {cs : Array Value} (h : Blk w g T cs) (hT : Turned F w w') (hn : g ∉ F) : Blk w' g T cs := (hT.block g h.lt hn).trans h
theorem mk_self {va : Int} {L : List Tm} (h : checkP va L = true) : mkE va L = 0 ∧ mkV va L = va ∧ mkL va L = L := by
  have k := checkP_ok h
  have e := sort_self k.can
  obtain ⟨e1, e2, e3⟩ := mk_of_ok k.range k.right (by rw [e]; exact k.len)
  exact ⟨e1, e2, by rw [e3, e]⟩
end Go.Proofs.YtcamcnahkdiefaaGreat

/- Several texts of mine in one file: Syk, Syl, Sym, Syn, Syo. -/
/- What symbol's functions answer, in plain words; the page's example. -/
namespace Go.Proofs.YtcamcnahkdiefaaGreat
set_option linter.unusedVariables false
set_option linter.unusedSimpArgs false
open Go.RowKit
def startP (n : Nat) : List (List Tm) := (List.range n).map fun (i : Nat) => varL (n : Int) (i : Int)
def okStart (v0 : Int) : List Int → List (List Tm) → Bool
  | v :: vs, L :: r => checkP v L && decide (v = v0) && okStart v0 vs r
  | _, _ => true
noncomputable def afterS (regs : Int) (l : List OpD) (vs : List Int) (r : List (List Tm)) : Int × List (List Tm) :=
  if checkS regs l ≠ 0 then (checkS regs l, []) else if (r.length : Int) ≠ regs then (10, []) else if okStart (vs.headD 0) vs r = false then (2, []) else runS (vs.headD 0) (unrS regs l) r
theorem varB_not {n i : Nat} (h : n ≤ 64) (hi : i < n) : ¬ varBad (n : Int) (i : Int) := by unfold varBad; omega
theorem varT_right {n i : Nat} (h : n ≤ 64) (hi : i < n) : rightL (n : Int) (varT (n : Int) (i : Int)) = true := by
  unfold rightL varT
  simp only [List.all_cons, List.all_nil, Bool.and_true]
  unfold rightT
  simp only [Int.toNat_natCast, List.length_set, List.length_replicate, decide_true, Bool.true_and, Bool.not_eq_true', List.any_eq_false, Bool.or_eq_true, decide_eq_true_eq, not_or]
  intro x hx
  rcases List.mem_or_eq_of_mem_set hx with h1 | h1
  · have := List.eq_of_mem_replicate h1; omega
  · omega
theorem sortT_one {t : Tm} (h : t.1 ≠ 0) : sortT [t] = [t] := by
  rw [sortT]
  simp [nzT, h]
theorem var_facts {n i : Nat} (h : n ≤ 64) (hi : i < n) : varE (n : Int) (i : Int) = 0 ∧ varV (n : Int) (i : Int) = n ∧ varL (n : Int) (i : Int) = varT (n : Int) (i : Int) ∧ checkP (n : Int) (varL (n : Int) (i : Int)) = true := by
  have hb := varB_not h hi
  have hs : sortT (varT (n : Int) (i : Int)) = varT (n : Int) (i : Int) := sortT_one (show (1 : UInt64) ≠ 0 by decide)
  have hl : (sortT (varT (n : Int) (i : Int))).length ≤ 4096 := by rw [hs]; exact (by decide : 1 ≤ 4096)
  have hv : ¬ ((n : Int) < 0 ∨ 64 < (n : Int)) := by omega
  obtain ⟨h1, h2, h3⟩ := mk_of_ok hv (varT_right h hi) hl
  have e1 : varL (n : Int) (i : Int) = varT (n : Int) (i : Int) := by unfold varL; rw [if_neg hb, h3, hs]
  refine ⟨by unfold varE; rw [if_neg hb]; exact h1, by unfold varV; rw [if_neg hb]; exact h2, e1, ?_⟩
  rw [e1]
  have := check_sort hv (varT_right h hi) hl
  rw [hs] at this
  exact this
theorem startP_len (n : Nat) : (startP n).length = n := by unfold startP; simp
theorem startP_get {n k : Nat} (hk : k < n) : (startP n)[k]? = some (varL (n : Int) (k : Int)) := by unfold startP; simp [hk]
theorem startP_all {n : Nat} (h : n ≤ 64) : AllP (n : Int) (startP n) := fun L hL => by
  unfold startP at hL
  obtain ⟨i, hi, rfl⟩ := List.mem_map.1 hL
  exact (var_facts h (List.mem_range.1 hi)).2.2.2
theorem runS_len {va : Int} : ∀ (l : List OpD) (r : List (List Tm)) (E : Int) (R : List (List Tm)), runS va l r = (E, R) → (E = 0 → R.length = r.length) ∧ (E ≠ 0 → R = [])
  | [], r, E, R, h => by
    simp only [runS, Prod.mk.injEq] at h
    exact ⟨fun _ => by rw [← h.2], fun hE => absurd h.1.symm hE⟩
  | x :: l, r, E, R, h => by
    rw [runS] at h
    split at h
    · have := runS_len l _ E R h
      exact ⟨fun hE => by rw [this.1 hE, List.length_set], this.2⟩
    · rename_i h0
      simp only [Prod.mk.injEq] at h
      exact ⟨fun hE => absurd (h.1.trans hE) h0, fun _ => h.2.symm⟩
theorem runS_all {va : Int} : ∀ (l : List OpD) (r : List (List Tm)) (E : Int) (R : List (List Tm)), (∀ x ∈ l, x.a.toNat < r.length) → AllP va r → runS va l r = (E, R) → AllP va R
  | [], r, E, R, _, hA, h => by
    simp only [runS, Prod.mk.injEq] at h
    rw [← h.2]; exact hA
  | x :: l, r, E, R, hx, hA, h => by
    rw [runS] at h
    split at h
    · rename_i h0
      refine runS_all l _ E R (fun y hy => ?_) (hA.set (sym_fine (hA.get (hx x List.mem_cons_self)) h0).2 _) h
      rw [List.length_set]; exact hx y (List.mem_cons_of_mem _ hy)
    · simp only [Prod.mk.injEq] at h
      rw [← h.2]; intro L hL; cases hL
end Go.Proofs.YtcamcnahkdiefaaGreat

/- symbol.Polys, symbol.Gradient, and the document's answer. -/
namespace Go.Proofs.YtcamcnahkdiefaaGreat
set_option linter.unusedVariables false
set_option linter.unusedSimpArgs false
open Go.RowKit
end Go.Proofs.YtcamcnahkdiefaaGreat

/- symbol.Gradient and the document's answer; two lists of polynomials that are alike. -/
namespace Go.Proofs.YtcamcnahkdiefaaGreat
set_option linter.unusedVariables false
set_option linter.unusedSimpArgs false
open Go.RowKit
end Go.Proofs.YtcamcnahkdiefaaGreat

/- symbol.After and the document's answer; two lists of polynomials that are alike. -/
namespace Go.Proofs.YtcamcnahkdiefaaGreat
set_option linter.unusedVariables false
set_option linter.unusedSimpArgs false
open Go.RowKit
def PsV (P : Nat → Prop) (w : World) (hs : List PoH) (r : List (List Tm)) : Prop := hs.length = r.length ∧ ∀ (i : Nat) (h : PoH) (L : List Tm), hs[i]? = some h → r[i]? = some L → TOut P w h.a h.n h.c L ∧ h.n ≤ 1000000 ∧ ∀ t ∈ L, t.2.length ≤ 1000000
theorem PsV.belowN {P : Nat → Prop} {w w' : World} {hs : List PoH} {r : List (List Tm)} (h : PsV P w hs r) (hb : Below w.heap.size w w') : PsV P w' hs r := ⟨h.1, fun i y L e1 e2 => ⟨(h.2 i y L e1 e2).1.belowN hb, (h.2 i y L e1 e2).2⟩⟩
theorem PsAt.toV {P : Nat → Prop} {w : World} {va : Int} {hs : List PoH} {r : List (List Tm)} (h : PsAt P w va hs r) (hA : AllP va r) : PsV P w hs r := ⟨h.1, fun i y L e1 e2 => by
  obtain ⟨f1, f2⟩ := checkP_len (hA L (List.mem_of_getElem? e2))
  have hT := (h.2 i y L e1 e2).2
  exact ⟨hT, by rw [hT.len]; exact f1, f2⟩⟩
theorem okStart_drop {v0 : Int} {hs : List PoH} {r : List (List Tm)} {k : Nat} {y : PoH} {L : List Tm} (h1 : hs[k]? = some y) (h2 : r[k]? = some L) :
    okStart v0 ((hs.map (·.v)).drop k) (r.drop k) = (checkP y.v L && decide (y.v = v0) && okStart v0 ((hs.map (·.v)).drop (k + 1)) (r.drop (k + 1))) := by
  have h1' : (hs.map (·.v))[k]? = some y.v := by rw [List.getElem?_map, h1]; rfl
  rw [drop_at h1', drop_at h2, okStart]
theorem okStart_all {v0 : Int} : ∀ {hs : List PoH} {r : List (List Tm)}, okStart v0 (hs.map (·.v)) r = true → ∀ (i : Nat) (y : PoH) (L : List Tm), hs[i]? = some y → r[i]? = some L → y.v = v0 ∧ checkP v0 L = true
  | [], r, _, i, y, L, h1, _ => by simp at h1
  | x :: hs, [], _, i, y, L, _, h2 => by simp at h2
  | x :: hs, M :: r, h, i, y, L, h1, h2 => by
    rw [List.map_cons, okStart] at h
    simp only [Bool.and_eq_true, decide_eq_true_eq] at h
    obtain ⟨⟨a1, a2⟩, a3⟩ := h
    cases i with
    | zero =>
      simp at h1 h2
      subst h1 h2
      rw [a2] at a1
      exact ⟨a2, a1⟩
    | succ i =>
      simp at h1 h2
      exact okStart_all a3 i y L h1 h2
end Go.Proofs.YtcamcnahkdiefaaGreat

/- Chapter 15: which programs are small; lists of polynomials that are alike; the page's example. -/
namespace Go.Proofs.YtcamcnahkdiefaaGreat
set_option linter.unusedVariables false
set_option linter.unusedSimpArgs false
open Go.RowKit
end Go.Proofs.YtcamcnahkdiefaaGreat

/- Chapter 24: what a program makes of polynomials: now, the fixed ones, and t (the document's after). -/
namespace Go.Proofs.YtcamcnahkdiefaaGreat
set_option linter.unusedVariables false
set_option linter.unusedSimpArgs false
open Go.RowKit
theorem const_facts {n : Nat} (h : n ≤ 64) (c : UInt64) : mkE (n : Int) (constT (n : Int) c) = 0 ∧ mkV (n : Int) (constT (n : Int) c) = (n : Int) ∧ checkP (n : Int) (mkL (n : Int) (constT (n : Int) c)) = true := by
  have hv : ¬ ((n : Int) < 0 ∨ 64 < (n : Int)) := by omega
  have hr : rightL (n : Int) (constT (n : Int) c) = true := by
    unfold rightL constT
    simp only [List.all_cons, List.all_nil, Bool.and_true]
    unfold rightT
    simp only [Int.toNat_natCast, List.length_replicate, decide_true, Bool.true_and, Bool.not_eq_true', List.any_eq_false, Bool.or_eq_true, decide_eq_true_eq, not_or]
    intro x hx
    obtain rfl := List.eq_of_mem_replicate hx
    decide
  have hl : (sortT (constT (n : Int) c)).length ≤ 4096 := Nat.le_trans (sort_len _) (by unfold constT; simp)
  obtain ⟨h1, h2, h3⟩ := mk_of_ok hv hr hl
  exact ⟨h1, h2, by rw [h3]; exact check_sort hv hr hl⟩
def moreS (va : Int) (t : Int) : List (List Tm) := if t < 0 then [] else [mkL va (constT va (UInt64.ofNat t.toNat))]
def fullS (regs va t : Int) (now fixed : List (List Tm)) : List (List Tm) := now ++ fixed ++ moreS va t ++ List.replicate (regs.toNat - (now ++ fixed ++ moreS va t).length) []
noncomputable def runC (p : PrD) (va t : Int) (now fixed : List (List Tm)) : Int × List (List Tm) := afterS p.regs p.l (List.replicate (fullS p.regs va t now fixed).length va) (fullS p.regs va t now fixed)
theorem AllP.nil (va : Int) : AllP va [] := fun L h => by simp at h
theorem AllP.app {va : Int} {a b : List (List Tm)} (ha : AllP va a) (hb : AllP va b) : AllP va (a ++ b) := fun L h => by
  rcases List.mem_append.1 h with h | h
  · exact ha L h
  · exact hb L h
theorem AllP.zeros (n : Nat) (k : Nat) (h : n ≤ 64) : AllP (n : Int) (List.replicate k []) := fun L hL => by
  obtain rfl := List.eq_of_mem_replicate hL
  have h0 : (sortT ([] : List Tm)).length ≤ 0 := sort_len _
  have h1 : sortT ([] : List Tm) = [] := List.eq_nil_of_length_eq_zero (by omega)
  have h2 := check_sort (vars := (n : Int)) (l := []) (by omega) rfl (by omega)
  rw [h1] at h2
  exact h2
theorem AllP.more (n : Nat) (t : Int) (h : n ≤ 64) : AllP (n : Int) (moreS (n : Int) t) := by
  unfold moreS
  split
  · exact AllP.nil _
  · intro L hL
    obtain rfl := List.mem_singleton.1 hL
    exact (const_facts h _).2.2
theorem fullS_all {n : Nat} (h : n ≤ 64) (regs t : Int) {now fixed : List (List Tm)} (h1 : AllP (n : Int) now) (h2 : AllP (n : Int) fixed) : AllP (n : Int) (fullS regs (n : Int) t now fixed) :=
  ((h1.app h2).app (AllP.more n t h)).app (AllP.zeros n _ h)
theorem PsAt.app {P : Nat → Prop} {w : World} {va : Int} {h1 h2 : List PoH} {r1 r2 : List (List Tm)} (a : PsAt P w va h1 r1) (b : PsAt P w va h2 r2) : PsAt P w va (h1 ++ h2) (r1 ++ r2) := by
  refine ⟨by simp [a.1, b.1], fun i z M e1 e2 => ?_⟩
  by_cases hi : i < h1.length
  · rw [List.getElem?_append_left hi] at e1
    rw [List.getElem?_append_left (by rw [← a.1]; exact hi)] at e2
    exact a.2 i z M e1 e2
  · rw [List.getElem?_append_right (by omega)] at e1
    rw [List.getElem?_append_right (by rw [← a.1]; omega), ← a.1] at e2
    exact b.2 _ z M e1 e2
theorem PsAt.zeros (P : Nat → Prop) (w : World) (va : Int) (k : Nat) : PsAt P w va (List.replicate k ⟨va, none, 0, 0⟩) (List.replicate k []) := by
  refine ⟨by simp, fun i z M e1 e2 => ?_⟩
  rw [List.getElem?_replicate] at e1 e2
  split at e1
  · rw [if_pos (by assumption)] at e2
    injection e1 with e1
    injection e2 with e2
    subst e1 e2
    exact ⟨rfl, TOut.nil _ _⟩
  · cases e1
theorem PsAt.vs {P : Nat → Prop} {w : World} {va : Int} {hs : List PoH} {r : List (List Tm)} (h : PsAt P w va hs r) : hs.map (·.v) = List.replicate r.length va := by
  rw [List.eq_replicate_iff]
  refine ⟨by simp [h.1], fun b hb => ?_⟩
  obtain ⟨y, hy, rfl⟩ := List.mem_map.1 hb
  obtain ⟨i, hi, e⟩ := List.mem_iff_getElem.1 hy
  have hr : i < r.length := by rw [← h.1]; exact hi
  exact (h.2 i y (r[i]) (by rw [List.getElem?_eq_getElem hi, e]) (List.getElem?_eq_getElem hr)).1
end Go.Proofs.YtcamcnahkdiefaaGreat

/- The document's run of operations on polynomials: of which blocks the results are. -/
namespace Go.Proofs.YtcamcnahkdiefaaGreat
set_option linter.unusedVariables false
set_option linter.unusedSimpArgs false
open Go.RowKit
def PolysOutQ (QP : Nat → Prop) (va : Int) (RR : List (List Tm)) (EE : Int) (w : World) (e : Ending) (w' : World) : Prop :=
  ∃ a' n' c' hs', e = .returned (.tuple #[.slice a' n' c', .int .i64 EE]) ∧ n' = RR.length ∧ Own w' w.heap.size 42 a' c' hs' ∧ PsAt (fun q => QP q ∨ w.heap.size ≤ q) w' va hs' RR ∧ Below w.heap.size w w'
end Go.Proofs.YtcamcnahkdiefaaGreat

/- symbol.run: of which blocks the results are. -/
namespace Go.Proofs.YtcamcnahkdiefaaGreat
set_option linter.unusedVariables false
set_option linter.unusedSimpArgs false
open Go.RowKit Go.Maps
set_option maxRecDepth 100000 in
set_option maxHeartbeats 6400000 in
theorem RunSymQ_calls (QP : Nat → Prop) (va : Int) (a : Option Addr) (ln c : Nat) (l : List OpD) (hln : ln = l.length) (sa : Option Addr) (sn sc : Nat) (hs : List PoH) (r : List (List Tm)) (hsn : sn = hs.length) (h0 : 0 < sn) (w : World) (h : At w a l) (hst : At w sa hs) (hP : PsAt (fun q => q < w.heap.size) w va hs r) (hAll : AllP va r)
    (hin : ∀ x ∈ l, (1 ≤ x.kind ∧ x.kind ≤ 6) ∧ InR (sn : Int) x) (hl : ln ≤ 1000000) (hsl : sn ≤ 1000000) (EE : Int) (RR : List (List Tm)) (hR : runS va l r = (EE, RR)) :
    Calls Tryz.prog 42 #[.slice a ln c, .slice sa sn sc] w (PolysOutQ QP va RR EE w) := by
  have HLN := hide hln
  have HSN := hide hsn
  have HSR := hide (show r.length = sn by rw [← hP.1, hsn])
  clear hln hsn
  have hmm := @run_makeMap Tryz.prog
  have hb0 := (below_box w (.map #[] 0)).alloc (by simp) (.cells #[.int .i64 0, .map (some w.heap.size), .int .i64 0] 159)
  have hm0 := (World.ownsMap_made w Tryz.prog 206 heldR).alloc (.cells #[.int .i64 0, .map (some w.heap.size), .int .i64 0] 159)
  have hk0 := Blk.new (w.alloc (.map #[] 0)) 159 #[.int .i64 0, .map (some w.heap.size), .int .i64 0]
  simp only [World.size_alloc] at hk0
  go_enter Tryz.func42, Tryz.ntmps42
  go_wp2
  refine wp_scope_straight ?_
  go_wp2
  go_loopw [7, 23] (fun rv iv wr => ∃ (k : Nat) (a' : Option Addr) (c' : Nat) (T : List StH) (vk : Int), rv = .slice a' k c' ∧ iv = .int .i64 k ∧ k ≤ sn ∧ Own wr (w.heap.size + 1 + 1) 162 a' c' T ∧ StsOk (fun q => q < w.heap.size) wr va (r.take k) T (r.take k) ∧
    Blk wr (w.heap.size + 1) 159 #[.int .i64 vk, .map (some w.heap.size), .int .i64 (k : Int)] ∧ (0 < k → vk = va) ∧ wr.ownsMap Tryz.prog 206 heldR w.heap.size 0 (.map []) ∧ Below w.heap.size w wr ∧ w.heap.size + 1 + 1 ≤ wr.heap.size) (fun _ iv _ => sn - (intOf iv).toNat)
  case atStart => exact ⟨0, _, _, [], 0, rfl, rfl, by omega, Own.none _ _ _, StsOk.nil _ _ _ _, hk0, by omega, hm0, hb0, by simp⟩
  case round =>
    obtain ⟨k, a', c', T, vk, rfl, rfl, hk, hown, hT, hbk, hvk, hmp, hb, hz⟩ := hrel
    by_cases hlt : k < sn
    · obtain ⟨b1, off1, x, rfl, hx, c0, c1⟩ := hst.getPo hb (show k < hs.length by have := HSN.out; omega)
      obtain ⟨hv1, hT1⟩ := hP.get hx.out
      rw [hv1] at c0
      obtain ⟨L, hL⟩ : ∃ L, r.getD k [] = L := ⟨_, rfl⟩
      rw [hL] at hT1
      have hrk : r[k]? = some L := by rw [← hL, List.getD_eq_getElem?_getD, List.getElem?_eq_getElem (by have := HSR.out; omega)]; rfl
      have hkl : k = T.length := by rw [hT.1, List.length_take, HSR.out]; omega
      have htk : r.take (k + 1) = r.take k ++ [L] := by rw [List.take_add_one, hrk]; rfl
      have hgb := hbk.lt
      obtain ⟨wo, rfl⟩ : ∃ wo : World, wo = wr := ⟨_, rfl⟩
      obtain ⟨k0, k1, k2, k3, k4, k5⟩ := (hbk.alloc (.cells #[.int .i64 va, .slice x.a x.n x.c] 42)).c3
      have hn1 : w.heap.size + 1 ≠ wo.heap.size := by omega
      have hg1 := grown_setCell wo (w.heap.size + 1) 0 (.int .i64 va)
      have hsz : (wo.setCell ⟨w.heap.size + 1, 0, none⟩ (.int .i64 va)).heap.size = wo.heap.size := by simp [World.setCell]
      have hbk5 := (hbk.set_ 0 (.int .i64 va)).alloc (.cells #[.int .i64 va, .slice x.a x.n x.c] 42)
      have hN := Blk.new (wo.setCell ⟨w.heap.size + 1, 0, none⟩ (.int .i64 va)) 42 #[.int .i64 va, .slice x.a x.n x.c]
      rw [hsz] at hN
      obtain ⟨n0, n1, n2, n3⟩ := hN.c2
      have hne0 := own_ne hown (g := w.heap.size + 1) (by omega)
      have hbx := below_box (wo.setCell ⟨w.heap.size + 1, 0, none⟩ (.int .i64 va)) (.cells #[.int .i64 va, .slice x.a x.n x.c] 42)
      have hb2 := (hb.grown hg1 (by omega) (fun q hq => by injection hq with hq; omega)).alloc (by omega) (.cells #[.int .i64 va, .slice x.a x.n x.c] 42)
      have hown2 := (hown.grown hg1 (.inr hne0)).alloc (.cells #[.int .i64 va, .slice x.a x.n x.c] 42)
      have hT2 := (hT.grown hg1 (fun q hq => by injection hq with hq; omega)).belowN hbx
      have hmp2 := (hmp.kept hg1 (by simp)).alloc (.cells #[.int .i64 va, .slice x.a x.n x.c] 42)
      obtain ⟨m, HM⟩ : ∃ m, Hid (k + 1 = m) := ⟨_, rfl⟩
      have HOF := hide (Of_callsM (w.heap.size + 1) va (.map (some w.heap.size)) k m HM.out (by omega) x.a x.n x.c _ hbk5 va)
      have hTx := hT1.belowN hb2
      have hz2 : w.heap.size + 1 + 1 ≤ ((wo.setCell ⟨w.heap.size + 1, 0, none⟩ (.int .i64 va)).alloc (.cells #[.int .i64 va, .slice x.a x.n x.c] 42)).heap.size := by simp [World.setCell]; omega
      have HKL := hide hkl
      have HTK := hide htk
      have HT1 := hide hTx
      clear hkl htk hTx hT1 hL hrk hown hT hmp hbk hbk5 hx
      go_wp2_with (first
        | (at_builtin; go_must (refine wpList_push tySt hown7 ⟨va, x.a, x.n, x.c, (m : Int)⟩ rfl rfl rfl rfl rfl rfl HKL.out hz7 (by omega) ?_; intro a3 c3 w3 hown3 hg3 hcs3))
        | (go_at_call 85; go_must ((with_reducible refine (HOF.out).mono ?_); rintro vv w7 ⟨rfl, hbk7, hg7⟩; have hown7 := hown2.grown hg7 (.inr hne0); have hz7 := Nat.le_trans hz2 hg7.size; have hb7 := hb2.grown hg7 (by omega) (fun q hq => by injection hq with hq; omega); have hT7 := hT2.grown hg7 (fun q hq => by injection hq with hq; omega); have hTx7 := HT1.out.grown hg7 (fun q hq => by injection hq with hq; omega); have hmp7 := hmp2.kept hg7 (by simp))))
      have hne3 : a'.map (·.block) ≠ some (w.heap.size + 1) := hne0
      have hne4 := own_ne hown7 (g := w.heap.size) (by omega)
      have hrow : ∀ q, a'.map (·.block) = some q → ¬ q < w.heap.size := fun q hq => by have := (hown7.blk q hq).1; omega
      have hm := HM.out
      subst hm
      go_roundw
      case rel =>
        refine ⟨k + 1, a3, c3, T ++ [⟨va, x.a, x.n, x.c, ((k + 1 : Nat) : Int)⟩], va, by go_num, by go_num, by omega, hown3, ?_, hbk7.grown hg3 (fun e => hne3 e.symm), fun _ => rfl, hmp7.kept hg3 (fun e => hne4 e.symm), hb7.grown hg3 (by omega) (fun q hq => by have := (hown7.blk q hq).1; omega), Nat.le_trans hz7 hg3.size⟩
        rw [HTK.out]
        exact ((hT7.more [L]).grown hg3 hrow).push ⟨rfl, hTx7.grown hg3 hrow, by simp; omega, by simp; rw [List.getElem?_append_right (by have := hT7.1; have := HKL.out; omega)]; simp [← hT7.1, ← HKL.out]⟩
      case measure => simp [intOf] <;> omega
    · have hkn : k = sn := by omega
      subst hkn
      have hr : r.take k = r := by rw [← HSR.out, List.take_length]
      rw [hr] at hT
      obtain rfl := hvk h0
      obtain ⟨gd, e1, hgB, hgz⟩ := hown.some_ (by rintro rfl; have := hT.1; have := HSR.out; simp at *; omega)
      subst e1
      have hTl : T.length = k := by rw [hT.1, HSR.out]
      have hT0 := hT.imp (Q := offR gd (w.heap.size + 1) w.heap.size) (fun q hq => by unfold offR; omega)
      have hBk : BookM (offR gd (w.heap.size + 1) w.heap.size) wr (w.heap.size + 1) w.heap.size vk r (.map []) := ⟨by rw [HSR.out]; exact hbk, by rw [HSR.out]; exact hmp.mono (by omega), Known.empty _ _ _ _⟩
      have HIN := hide hin
      have HR := hide hR
      clear hin hR hlt hk hst hP hvk hT hbk hmp hr
      obtain ⟨wo, rfl⟩ : ∃ wo : World, wo = wr := ⟨_, rfl⟩
      go_wp2
      go_step3
      go_wp2
      go_loopw [10, 41] (fun ev iv wr => ∃ (j : Nat) (T' : List StH) (R PL : List (List Tm)) (D : DataW Value), ev = .int .i64 0 ∧ iv = .int .i64 j ∧ j ≤ ln ∧ Own wr (w.heap.size + 1 + 1) 162 (some ⟨gd, 0, none⟩) c' T' ∧ T'.length = k ∧ StsOk (offR gd (w.heap.size + 1) w.heap.size) wr vk PL T' R ∧ AllP vk R ∧ runS vk (l.drop j) R = (EE, RR) ∧
        BookM (offR gd (w.heap.size + 1) w.heap.size) wr (w.heap.size + 1) w.heap.size vk PL D ∧ PL.length ≤ k + j ∧ Below w.heap.size w wr ∧ gd < wr.heap.size) (fun _ iv _ => ln - (intOf iv).toNat)
      case atStart => exact ⟨0, T, r, r, .map [], rfl, rfl, by omega, hown, hTl, hT0, hAll, HR.out, hBk, by rw [HSR.out]; omega, hb, hgz⟩
      case round =>
        obtain ⟨j, T', R, PL, D, rfl, rfl, hj, hown', hTl', hTR, hAR, hRS, hBM, hPLl, hbV, hgzV⟩ := hrel
        have hzV := hbV.size
        by_cases hlt : j < ln
        · have hjl : j < l.length := by have := HLN.out; omega
          obtain ⟨b1', off1, x, rfl, hx, x0, x1, x2, x3, x4⟩ := (h.belowN hbV).getOp (Below.refl _ _) hjl
          obtain ⟨⟨k1, k2⟩, ⟨d1, d2⟩, ⟨p1, p2⟩, ⟨i1, i2⟩⟩ := HIN.out x (List.mem_of_getElem? hx.out)
          have hRlen : R.length = k := by rw [← hTR.1]; exact hTl'
          obtain ⟨pd, hpd⟩ : ∃ y, T'[x.d.toNat]? = some y := ⟨T'[x.d.toNat]'(by omega), List.getElem?_eq_getElem _⟩
          obtain ⟨pa, hpa⟩ : ∃ y, T'[x.a.toNat]? = some y := ⟨T'[x.a.toNat]'(by omega), List.getElem?_eq_getElem _⟩
          obtain ⟨pb, hpb⟩ : ∃ y, T'[x.b.toNat]? = some y := ⟨T'[x.b.toNat]'(by omega), List.getElem?_eq_getElem _⟩
          have hsA := hTR.get hpa
          have hsB := hTR.get hpb
          have hca := hAR.get (k := x.a.toNat) (by omega)
          have hcb := hAR.get (k := x.b.toNat) (by omega)
          rw [drop_at hx.out, runS] at hRS
          generalize R.getD x.a.toNat [] = A at *
          generalize R.getD x.b.toNat [] = B at *
          obtain ⟨e0, he0⟩ : ∃ e, symE vk x.kind x.v A B = e := ⟨_, rfl⟩
          obtain ⟨L0, hL0⟩ : ∃ e, symL vk x.kind x.v A B = e := ⟨_, rfl⟩
          have hfine := sym_fine (k := x.kind) (v := x.v) (B := B) hca
          rw [he0, hL0] at hfine
          rw [he0, hL0] at hRS
          obtain ⟨gx, hgx⟩ : ∃ gx, wr.heap.size = gx := ⟨_, rfl⟩
          have hdq : Below wr.heap.size wr (wr.alloc (.cells #[.int .i64 x.kind, .int .i64 x.d, .int .i64 x.a, .int .i64 x.b, .int .u64 (x.v.toNat : Int)] 89)).drew := Below.drew (below_box wr _)
          have hXb : Blk (wr.alloc (.cells #[.int .i64 x.kind, .int .i64 x.d, .int .i64 x.a, .int .i64 x.b, .int .u64 (x.v.toNat : Int)] 89)).drew wr.heap.size 89 #[.int .i64 x.kind, .int .i64 x.d, .int .i64 x.a, .int .i64 x.b, .int .u64 (x.v.toNat : Int)] := Blk.new wr _ _
          have hF : ∀ g ∈ [w.heap.size + 1, w.heap.size], ¬ offR gd (w.heap.size + 1) w.heap.size g := fun g hg h => by unfold offR at h; simp at hg; omega
          have hFd : gd ∉ [w.heap.size + 1, w.heap.size] := by simp; omega
          have hFx : gx ∉ [w.heap.size + 1, w.heap.size] := by simp; omega
          have HDO := hide (Do_calls (w.heap.size + 1) w.heap.size (by omega) x.kind x.d x.a x.b x.v ⟨k1, k2⟩ (offR gd (w.heap.size + 1) w.heap.size) vk PL (by omega) D pa pb A B _ (hBM.belowN hdq) (fun q hq => by have := hdq.size; have := hXb.lt; unfold offR; omega) (fun h => h.2.1 rfl) (fun h => h.2.2 rfl) (hsA.belowN hdq) (hsB.belowN hdq) hca hcb L0 e0 hL0 he0)
          have hownq := hown'.belowN hdq
          have ca0 := hownq.cellAt hpa (f := 0) rfl
          have ca1 := hownq.cellAt hpa (f := 1) rfl
          have ca2 := hownq.cellAt hpa (f := 2) rfl
          have cb0 := hownq.cellAt hpb (f := 0) rfl
          have cb1 := hownq.cellAt hpb (f := 1) rfl
          have cb2 := hownq.cellAt hpb (f := 2) rfl
          have cd0 := hownq.cellAt hpd (f := 0) rfl
          have cd1 := hownq.cellAt hpd (f := 1) rfl
          have cd2 := hownq.cellAt hpd (f := 2) rfl
          have fd0 := hownq.frozen (x.d.toNat * 3)
          have fd1 := hownq.frozen (x.d.toNat * 3 + 1)
          have fd2 := hownq.frozen (x.d.toNat * 3 + 2)
          simp only [Flat.n, Nat.add_zero] at ca0 ca1 ca2 cb0 cb1 cb2 cd0 cd1 cd2
          rw [hgx] at hXb
          obtain ⟨o0, o1, o2, o3, o4, o5, o6, o7, o8, o9⟩ := hXb.c5
          obtain ⟨S', hS'⟩ : ∃ S' : World → Prop, S' = fun w' => (w'.cell? ⟨gx, 0, none⟩ = some (.int .i64 x.kind) ∧ w'.cell? ⟨gx, 1, none⟩ = some (.int .i64 x.d) ∧ w'.cell? ⟨gx, 2, none⟩ = some (.int .i64 x.a) ∧ w'.cell? ⟨gx, 3, none⟩ = some (.int .i64 x.b) ∧ w'.cell? ⟨gx, 4, none⟩ = some (.int .u64 (x.v.toNat : Int))) ∧ (w'.cell? ⟨gd, x.a.toNat * 3, none⟩ = some (.int .i64 pa.v) ∧ w'.cell? ⟨gd, x.a.toNat * 3 + 1, none⟩ = some (.slice pa.a pa.n pa.c) ∧ w'.cell? ⟨gd, x.a.toNat * 3 + 2, none⟩ = some (.int .i64 pa.k)) ∧ (w'.cell? ⟨gd, x.b.toNat * 3, none⟩ = some (.int .i64 pb.v) ∧ w'.cell? ⟨gd, x.b.toNat * 3 + 1, none⟩ = some (.slice pb.a pb.n pb.c) ∧ w'.cell? ⟨gd, x.b.toNat * 3 + 2, none⟩ = some (.int .i64 pb.k)) := ⟨_, rfl⟩
          have HSE : Hid (∀ w', S' w' → (w'.cell? ⟨gx, 0, none⟩ = some (.int .i64 x.kind) ∧ w'.cell? ⟨gx, 1, none⟩ = some (.int .i64 x.d) ∧ w'.cell? ⟨gx, 2, none⟩ = some (.int .i64 x.a) ∧ w'.cell? ⟨gx, 3, none⟩ = some (.int .i64 x.b) ∧ w'.cell? ⟨gx, 4, none⟩ = some (.int .u64 (x.v.toNat : Int))) ∧ (w'.cell? ⟨gd, x.a.toNat * 3, none⟩ = some (.int .i64 pa.v) ∧ w'.cell? ⟨gd, x.a.toNat * 3 + 1, none⟩ = some (.slice pa.a pa.n pa.c) ∧ w'.cell? ⟨gd, x.a.toNat * 3 + 2, none⟩ = some (.int .i64 pa.k)) ∧ (w'.cell? ⟨gd, x.b.toNat * 3, none⟩ = some (.int .i64 pb.v) ∧ w'.cell? ⟨gd, x.b.toNat * 3 + 1, none⟩ = some (.slice pb.a pb.n pb.c) ∧ w'.cell? ⟨gd, x.b.toNat * 3 + 2, none⟩ = some (.int .i64 pb.k))) := hide (fun w' h => by rw [hS'] at h; exact h)
          have HSI : Hid (S' (wr.alloc (.cells #[.int .i64 x.kind, .int .i64 x.d, .int .i64 x.a, .int .i64 x.b, .int .u64 (x.v.toNat : Int)] 89)).drew) := hide (by rw [hS']; exact ⟨⟨o0, o1, o2, o3, o4⟩, ⟨ca0, ca1, ca2⟩, ⟨cb0, cb1, cb2⟩⟩)
          have hgdq : gd < (wr.alloc (.cells #[.int .i64 x.kind, .int .i64 x.d, .int .i64 x.a, .int .i64 x.b, .int .u64 (x.v.toNat : Int)] 89)).drew.heap.size := Nat.lt_of_lt_of_le hgzV hdq.size
          have hgxq := hXb.lt
          have HST : Hid (∀ w4, Turned [w.heap.size + 1, w.heap.size] (wr.alloc (.cells #[.int .i64 x.kind, .int .i64 x.d, .int .i64 x.a, .int .i64 x.b, .int .u64 (x.v.toNat : Int)] 89)).drew w4 → S' w4) := hide (fun w4 hT4 => by
            have y0 := fun off => (tcell hT4 gx off hgxq hFx).1
            have y1 := fun off => (tcell hT4 gd off hgdq hFd).1
            rw [hS']
            exact ⟨⟨(y0 _).trans o0, (y0 _).trans o1, (y0 _).trans o2, (y0 _).trans o3, (y0 _).trans o4⟩, ⟨(y1 _).trans ca0, (y1 _).trans ca1, (y1 _).trans ca2⟩, ⟨(y1 _).trans cb0, (y1 _).trans cb1, (y1 _).trans cb2⟩⟩)
          have HPD := hide hpd
          have HTR := hide (hTR.belowN hdq)
          have HFI := hide hfine
          have HRS := hide hRS
          have HF := hide hF
          have HB1 := hide hbV
          have HDQ := hide hdq
          have HOW := hide hownq
          clear hfine hRS hL0 he0 hca hcb hsA hsB hpa hpb hpd hTR hF hownq hown' ca0 ca1 ca2 cb0 cb1 cb2 hS' hBM
          go_wp2
          refine wp_region_fan [0, 1, 2, 3, 4, 5, 6, 7, 8, 9, 10, 11, 12, 13, 14] [15, 16] [17, 18] [19, 20, 21] S' (by kernel_rfl) (by kernel_rfl) HSI.out ?_
          simp only [pickL, List.filterMap_cons, List.filterMap_nil, List.getElem?_cons_succ, List.getElem?_cons_zero]
          iterate 15
            apply headK_step (by rfl)
            · intro w' hw'
              obtain ⟨⟨s0, s1, s2, s3, s4⟩, ⟨s5, s6, s7⟩, ⟨s8, s9, s10⟩⟩ := HSE.out w' hw'
              go_simp
              rfl
            intro a' ha'
            simp only [Act.put, List.setIfInBounds_toArray, List.set_cons_succ, List.set_cons_zero] at ha'
            subst ha'
          refine headK_nil ?_
          rw [midF]
          intro K0 hK0
          have HK0 := hide hK0
          clear hK0
          go_simp
          go_at_call 86
          refine (HDO.out).mono ?_
          rintro e w4 ⟨z, rfl, hT4, hz4⟩
          refine HK0.out _ _ (HST.out w4 hT4) ?_
          clear HK0
          rw [midF]
          intro K0 hK0
          have HK0 := hide hK0
          clear hK0
          go_simp
          refine HK0.out _ _ (HST.out w4 hT4) ?_
          clear HK0 HST HSE HSI
          rw [midF]
          iterate 2
            apply headK_step (by rfl)
            · intro w' _
              go_simp
              rfl
            intro a' ha'
            simp only [Act.put, List.setIfInBounds_toArray, List.set_cons_succ, List.set_cons_zero] at ha'
            subst ha'
          refine headK_nil ?_
          have t0 := (tcell hT4 gd (x.d.toNat * 3) hgdq hFd).1.trans cd0
          have t1 := (tcell hT4 gd (x.d.toNat * 3 + 1) hgdq hFd).1.trans cd1
          have t2 := (tcell hT4 gd (x.d.toNat * 3 + 2) hgdq hFd).1.trans cd2
          have t3 := (tcell hT4 gd (x.d.toNat * 3) hgdq hFd).2.trans fd0
          have t4 := (tcell hT4 gd (x.d.toNat * 3 + 1) hgdq hFd).2.trans fd1
          have t5 := (tcell hT4 gd (x.d.toNat * 3 + 2) hgdq hFd).2.trans fd2
          have hR4 := (HOW.out.turned hT4 (fun g hg hm => by simp at hg; subst hg; exact hFd hm)).setSt HPD.out z
          have hg0 := grown_setCell w4 gd (x.d.toNat * 3) (.int .i64 z.v)
          have hg1 := grown_trans hg0 (grown_setCell _ gd (x.d.toNat * 3 + 1) (.slice z.a z.n z.c))
          have hg2 := grown_trans hg1 (grown_setCell _ gd (x.d.toNat * 3 + 2) (.int .i64 z.k))
          have hB4 := HB1.out.trans (HDQ.out.mono (by omega))
          have hB4' := (hT4.below hB4 (fun g hg => by simp at hg; omega) hB4.size)
          have hB5 := hB4'.grown hg2 hB4'.size (fun q hq => by injection hq with hq; omega)
          have hgd5 : gd < (((w4.setCell ⟨gd, x.d.toNat * 3, none⟩ (.int .i64 z.v)).setCell ⟨gd, x.d.toNat * 3 + 1, none⟩ (.slice z.a z.n z.c)).setCell ⟨gd, x.d.toNat * 3 + 2, none⟩ (.int .i64 z.k)).heap.size := Nat.lt_of_lt_of_le hgdq (Nat.le_trans hT4.size hg2.size)
          have HG2 := hide hg2
          have HT4 := hide hT4
          have HZ4 := hide hz4
          clear hg0 hg1 hg2 hT4 hz4 cd0 cd1 cd2 fd0 fd1 fd2
          go_wp2
          refine NoPanic.normal ?_
          by_cases he : e0 = 0
          · have he1 : (e0 == 0) = true := by simpa using he
            have he2 : (e0 != 0) = false := by simpa using he
            have hrr := HRS.out
            rw [if_pos he] at hrr
            obtain ⟨f1, f2⟩ := HFI.out he
            obtain ⟨ext, D', hz, hBM4, hext⟩ := HZ4.out he
            have hP5 := ((((HTR.out.turned HT4.out HF.out).more ext).set x.d.toNat hz).grown HG2.out (fun g hg => by injection hg with hg; subst hg; exact fun h => h.1 rfl))
            have hBM5 := hBM4.grown HG2.out (by omega) (by omega) (fun h => h.1 rfl)
            have hA6 := hAR.set f2 x.d.toNat
            have HRR := hide hrr
            have HE0 := hide he
            clear hrr f1 f2 he HZ4 hBM4 hz
            go_wp2
            go_roundw
            case rel => exact ⟨j + 1, _, _, PL ++ ext, D', by rw [HE0.out], by go_num, by omega, hR4, by simp [hTl'], hP5, hA6, HRR.out, hBM5, by rw [List.length_append]; omega, hB5, hgd5⟩
            case measure => simp [intOf] <;> omega
          · have he1 : (e0 == 0) = false := by simpa using he
            have he2 : (e0 != 0) = true := by simpa using he
            have hrr := HRS.out
            rw [if_neg he] at hrr
            injection hrr with hE1 hE2
            have HE1 := hide hE1
            have HE2 := hide hE2
            clear hE1 hE2 he
            go_wp2
            try rw [Exit.noGoto_ret]
            go_ret2
            refine ⟨none, 0, 0, [], ?_, by rw [← HE2.out]; rfl, Own.none _ _ _, by rw [← HE2.out]; exact PsAt.nil _ _ _, hB5⟩
            rw [← HE1.out]
            rfl
        · have hjn : j = ln := by omega
          subst hjn
          rw [show l.drop j = [] by rw [HLN.out, List.drop_length], runS] at hRS
          injection hRS with hE1 hE2
          have HE1 := hide hE1
          have HE2 := hide hE2
          have hRlen : R.length = k := by rw [← hTR.1]; exact hTl'
          obtain ⟨w2, rfl⟩ : ∃ w2 : World, w2 = wr := ⟨_, rfl⟩
          clear hE1 hE2 hBM hj
          go_wp2
          go_loopw [13, 73] (fun rv iv wr => ∃ (m : Nat) (a3 : Option Addr) (c3 : Nat) (hs3 : List PoH), rv = .slice a3 m c3 ∧ iv = .int .i64 m ∧ m ≤ k ∧ Own wr w2.heap.size 42 a3 c3 hs3 ∧ hs3.length = m ∧ PsAt (fun q => a3.map (·.block) ≠ some q ∧ w2.heap.size ≤ q) wr vk hs3 (R.take m) ∧ Below w2.heap.size w2 wr) (fun _ iv _ => k - (intOf iv).toNat)
          case atStart => exact ⟨0, none, 0, [], rfl, rfl, by omega, Own.none _ _ _, rfl, PsAt.nil _ _ _, Below.refl _ _⟩
          case round =>
            obtain ⟨m, a3, c3, hs3, rfl, rfl, hm, hown3, hl3, hP3, hb3⟩ := hrel
            have hz3 := hb3.size
            by_cases hlt3 : m < k
            · obtain ⟨y, hy⟩ : ∃ y, T'[m]? = some y := ⟨T'[m]'(by omega), List.getElem?_eq_getElem _⟩
              have hsy := (hTR.get hy).belowN hb3
              have hcy := hAR.get (k := m) (by omega)
              obtain ⟨L, hL⟩ : ∃ L, R.getD m [] = L := ⟨_, rfl⟩
              rw [hL] at hsy hcy
              have hrm : R[m]? = some L := by rw [← hL, List.getD_eq_getElem?_getD, List.getElem?_eq_getElem (by omega)]; rfl
              have htk : R.take (m + 1) = R.take m ++ [L] := by rw [List.take_add_one, hrm]; rfl
              have hown4 := hown'.belowN hb3
              have c0 := hown4.cellAt hy (f := 0) rfl
              have c1 := hown4.cellAt hy (f := 1) rfl
              have c2 := hown4.cellAt hy (f := 2) rfl
              simp only [Flat.n, Nat.add_zero] at c0 c1 c2
              rw [hsy.v] at c0
              obtain ⟨f1, f2⟩ := checkP_len hcy
              obtain ⟨g1, g2, g3⟩ := mk_self hcy
              obtain ⟨w3, rfl⟩ : ∃ w3 : World, w3 = wr := ⟨_, rfl⟩
              have hbs := below_box w3 (.cells #[.int .i64 vk, .slice y.a y.n y.c, .int .i64 y.k] 162)
              have hNs := Blk.new w3 162 #[.int .i64 vk, .slice y.a y.n y.c, .int .i64 y.k]
              obtain ⟨n0, n1, n2, n3, n4, n5⟩ := hNs.c3
              have HPM := hide (PMake_calls _ vk y.a y.n y.c L _ (hsy.t.belowN hbs) (by have := hsy.t.len; omega) f2 vk L 0 g2 g3 g1)
              have hown5 := hown3.belowN hbs
              have hP5 := (hP3.bounded).belowN hbs
              have hb5 := hb3.trans (hbs.mono hz3)
              have HKL := hide hl3.symm
              have HTK := hide htk
              have HVV := hide hsy.v
              clear hl3 htk hL hrm hy hsy hcy hown3 hown4 f1 f2 g1 g2 g3
              go_wp2_with (first
                | (at_builtin; go_must (have hgd := hT9; refine wpList_push tyPo hown10 ⟨vk, a9, n9, c9⟩ rfl rfl rfl rfl rfl (by simp) HKL.out hz10 (by omega) ?_; intro a4 c4 w4 hown6 hg6 hcs6))
                | (go_at_call 84; go_must ((with_reducible refine (HPM.out).mono ?_); rintro vv w9 ⟨a9, n9, c9, rfl, hT9, hb9⟩; have hb10 := hb9.trans ((below_box w9 (.cells #[.int .i64 vk, .slice a9 n9 c9] 42)).mono hb9.size); have hown10 := hown5.belowN hb10; have hz10 : w2.heap.size ≤ (w9.alloc (.cells #[.int .i64 vk, .slice a9 n9 c9] 42)).heap.size := (by have := hb5.size; have := hb10.size; omega); have hN10 := Blk.new w9 42 #[.int .i64 vk, .slice a9 n9 c9]; obtain ⟨p0, p1, p2, p3⟩ := hN10.c2)))
              have hb12 := below_push (hb5.trans (hb10.mono hb5.size)) hown10 hg6 hz10
              have hP6 := ((hP5.belowN hb10).grown hg6 (fun q hq h => h.1.1 hq)).imp (Q := fun q => a4.map (·.block) ≠ some q ∧ w2.heap.size ≤ q) (fun q hq => ⟨ne_push hcs6 hq.1.1 (by have := hbs.size; have := hb10.size; omega), hq.1.2⟩)
              have hT10 := ((hT9.bounded.belowN (below_box w9 (.cells #[.int .i64 vk, .slice a9 n9 c9] 42))).grown hg6 (fun q hq h => by have := (hown5.blk q hq).2; omega)).imp (Q := fun q => a4.map (·.block) ≠ some q ∧ w2.heap.size ≤ q) (fun q hq => ⟨ne_push hcs6 (fun e => by have := (hown5.blk q e).2; omega) (by rw [World.size_alloc]; omega), by have h8 := hq.1; have h9 := hb5.size; omega⟩)
              go_roundw
              case rel => exact ⟨m + 1, a4, c4, hs3 ++ [⟨vk, a9, n9, c9⟩], by go_num, by go_num, by omega, hown6, by simp [← HKL.out], by rw [HTK.out]; exact hP6.push rfl hT10, hb12⟩
              case measure => simp [intOf] <;> omega
            · have hmk : m = k := by omega
              subst hmk
              rw [show R.take m = R by rw [← hRlen, List.take_length]] at hP3
              go_wp2
              try rw [Exit.noGoto_ret]
              go_ret2
              refine ⟨a3, m, c3, hs3, ?_, by rw [← HE2.out, hRlen], hown3.mono hzV, by rw [← HE2.out]; exact hP3.imp fun q hq => .inr (by have := hq.2; omega), hbV.trans (hb3.mono hzV)⟩
              rw [← HE1.out]
              rfl
end Go.Proofs.YtcamcnahkdiefaaGreat
