/- Chapters 2, 14: duals: in memory, plain; ref02's walks. -/
import Derived.Deep.RegionHeld3
import Derived.Laws.ResultCell
import Derived.Laws.Rows
import Derived.Scope
import Derived.Test.YthncfoompoheoaaAz
import Derived.Test.YthncfoompoheoaaQh
import Derived.Test.YthncfoompoheoaaAd
import Derived.Test.YthncfoompoheoaaG21
namespace Go.Proofs.Ythncfoompoheoaa
set_option linter.unusedVariables false
set_option linter.unusedSimpArgs false
open Go.RowKit
/-- a dual: its value, its derivative -/
structure DuD where
  v : UInt64
  d : UInt64
  deriving DecidableEq
instance : Flat DuD := ⟨2, fun x => [.int .u64 (x.v.toNat : Int), .int .u64 (x.d.toNat : Int)], fun _ => rfl, fun x u hu => by simp at hu; rcases hu with rfl | rfl <;> rfl, by decide⟩
def DuD.val (x : DuD) : Value := .agg #[.int .u64 (x.v.toNat : Int), .int .u64 (x.d.toNat : Int)]
theorem tyD : Ty Try.prog 50 92 DuD := Ty.of (z := .agg #[.int .u64 0, .int .u64 0]) (size := 2) (bytes := 16) Try.underlying50 (by kernel_rfl) rfl (by decide) rfl
theorem tyND : TyN Try.prog 50 92 (⟨0, 0⟩ : DuD) := TyN.of (z := .agg #[.int .u64 0, .int .u64 0]) (size := 2) (bytes := 16) Try.underlying50 (by kernel_rfl) rfl (by decide) rfl
theorem wpList_mkN {P : Program} {ops : Array Oper} {rest : List Oper} {o : Oper} {act : Act} {Q : Exit → Act → World → Prop} {w : World} {T E : TypeId} {α : Type} [Flat α] {z0 : α} (ty : TyN P T E z0) {B n : Nat} {x y : Operand} {k1 k2 : IntKind} {n1 n2 : Int}
    (hgd : o.guard = none) (ho : o.op = .makeSlice T x y) (hx : act.eval x = .int k1 n1) (hy : act.eval y = .int k2 n2) (h1 : n1 = (n : Int)) (h2 : n2 = (n : Int)) (hB : B ≤ w.heap.size) (hn : n ≤ 1000000000)
    (h : ∀ w', Own w' B E (some ⟨w.heap.size, 0, none⟩) n (List.replicate n z0) → w.grownBy w' none → wpList P ops Q rest (act.put o.dst (.slice (some ⟨w.heap.size, 0, none⟩) n n)) w') :
    wpList P ops Q (o :: rest) act w := by
  obtain ⟨i, z, hi, hz, hs, hb, hc⟩ := ty.info
  refine wpList_make_full w hgd x y T ho B E i z (Flat.n α) ty.und hi hz hs k1 k2 n1 n2 n hx hy h1 h2 (Nat.le_trans (Nat.mul_le_mul hb hn) (by decide)) (by simp only [maxLen]; omega) hB fun w' g1 g2 => h w' ?_ g2
  unfold Own
  rw [List.length_replicate]
  have e : (madeCells z.cells (n * Flat.n α)).toList = (List.replicate n z0).flatMap Flat.enc := by
    rw [← zeroCells_flat hc n]
    have hs : z.cells.size = Flat.n α := by rw [← Array.length_toList, hc, Flat.len]
    rw [← hs]
    rfl
  rw [← e]
  exact g1
theorem results_row_D {P : Program} {fn : Func} {p : Tmp} {ty : TypeId} (h : fn.results = #[.cell p ty]) (tmps : Array Value) (w : World) (g : Nat) (t : TypeId) (cs : Array Value) (fr : Nat × Nat) (d : TypeDesc)
    (hp : tmps.getD p undef = .pointer (some ⟨g, 0, none⟩)) (hg : w.heap[g]? = some (.cells cs t fr)) (hu : P.underlying ty = some d) (hd : (match d with | .struct _ | .array _ _ => true | _ => false) = true) (hi : (P.info? ty).map (·.size) = some cs.size) :
    (results fn tmps).run P w = .ok (.agg cs) w := by
  have hp' : tmps[p]?.getD undef = .pointer (some ⟨g, 0, none⟩) := by simpa using hp
  simp only [results, h]
  simp [Sem.run_bind, hp', asAddr, run_loadVar_row w g t ty cs fr d hg hu hd hi, Result.andThen]
def addD (a b : DuD) : DuD := ⟨a.v + b.v, a.d + b.d⟩
def negD (a : DuD) : DuD := ⟨0 - a.v, 0 - a.d⟩
def mulD (a b : DuD) : DuD := ⟨a.v * b.v, a.v * b.d + a.d * b.v⟩
set_option maxRecDepth 100000 in
set_option maxHeartbeats 1600000 in
theorem Plus02_calls (a b : DuD) (w : World) : Calls Try.prog 125 #[a.val, b.val] w fun e w' => e = .returned (addD a b).val ∧ Below w.heap.size w w' := by
  obtain ⟨av, ad⟩ := a
  obtain ⟨bv, bd⟩ := b
  simp only [addD, DuD.val]
  obtain ⟨sv, hsv⟩ : ∃ s, av + bv = s := ⟨_, rfl⟩
  obtain ⟨sd, hsd⟩ : ∃ s, ad + bd = s := ⟨_, rfl⟩
  have HP1 := hide (fun W => Plus_calls av bv W)
  have HP2 := hide (fun W => Plus_calls ad bd W)
  rw [hsv] at HP1
  rw [hsd] at HP2
  rw [hsv, hsd]
  clear hsv hsd
  have hA := ((Blk.new w 92 #[.int .u64 (av.toNat : Int), .int .u64 (ad.toNat : Int)]).alloc (.cells #[.int .u64 (bv.toNat : Int), .int .u64 (bd.toNat : Int)] 92)).alloc (.cells #[.int .u64 0, .int .u64 0] 92)
  have hB := (Blk.new (w.alloc (.cells #[.int .u64 (av.toNat : Int), .int .u64 (ad.toNat : Int)] 92)) 92 #[.int .u64 (bv.toNat : Int), .int .u64 (bd.toNat : Int)]).alloc (.cells #[.int .u64 0, .int .u64 0] 92)
  have hC := Blk.new ((w.alloc (.cells #[.int .u64 (av.toNat : Int), .int .u64 (ad.toNat : Int)] 92)).alloc (.cells #[.int .u64 (bv.toNat : Int), .int .u64 (bd.toNat : Int)] 92)) 92 #[.int .u64 0, .int .u64 0]
  simp only [World.size_alloc] at hB hC
  have hb0 := Below.trans (below2 w (.cells #[.int .u64 (av.toNat : Int), .int .u64 (ad.toNat : Int)] 92) (.cells #[.int .u64 (bv.toNat : Int), .int .u64 (bd.toNat : Int)] 92)) ((below_new12 _ (.cells #[.int .u64 0, .int .u64 0] 92)).mono (by simp <;> omega))
  obtain ⟨w0, hw0⟩ : ∃ w0, w0 = (((w.alloc (.cells #[.int .u64 (av.toNat : Int), .int .u64 (ad.toNat : Int)] 92)).alloc (.cells #[.int .u64 (bv.toNat : Int), .int .u64 (bd.toNat : Int)] 92)).alloc (.cells #[.int .u64 0, .int .u64 0] 92)) := ⟨_, rfl⟩
  rw [← hw0] at hA hB hC hb0
  have hz0 : w0.heap.size = w.heap.size + 3 := by rw [hw0]; simp
  have HW0 : Hid ((((w.alloc (.cells #[.int .u64 (av.toNat : Int), .int .u64 (ad.toNat : Int)] 92)).alloc (.cells #[.int .u64 (bv.toNat : Int), .int .u64 (bd.toNat : Int)] 92)).alloc (.cells #[.int .u64 0, .int .u64 0] 92)) = w0) := hide hw0.symm
  clear hw0
  go_enter Try.func125, Try.ntmps125
  go_wp2_with fail
  rw [HW0.out]
  clear HW0
  generalize hg : w.heap.size + 1 + 1 = g at *
  have hne1 : w.heap.size ≠ g := by omega
  have hne2 : w.heap.size + 1 ≠ g := by omega
  have hne3 : g ≠ w.heap.size := by omega
  have hne4 : g ≠ w.heap.size + 1 := by omega
  have hgw : w.heap.size ≤ g := by omega
  clear hg
  obtain ⟨a0, a1, a2, a3⟩ := hA.c2
  obtain ⟨b0, b1, b2, b3⟩ := hB.c2
  obtain ⟨c0, c1, c2, c3⟩ := hC.c2
  have hd0 : Below w0.heap.size w0 w0.drew := Below.drew (Below.refl _ _)
  go_region_held3 (fun w' => w'.cell? ⟨w.heap.size, 0, none⟩ = some (.int .u64 (av.toNat : Int)) ∧ w'.cell? ⟨w.heap.size, 1, none⟩ = some (.int .u64 (ad.toNat : Int)) ∧ w'.cell? ⟨w.heap.size + 1, 0, none⟩ = some (.int .u64 (bv.toNat : Int)) ∧ w'.cell? ⟨w.heap.size + 1, 1, none⟩ = some (.int .u64 (bd.toNat : Int))) (go_keep)
    (first
      | (have hgd := w1; go_at_call 78; go_must ((with_reducible refine (HP2.out _).mono ?_); rintro e w2 ⟨rfl, hb2⟩; have hB2 := hB1.trans (hb2.mono hB1.size); obtain ⟨s0, s1, s2, s3⟩ := (hA.belowN hB2).c2; obtain ⟨s4, s5, s6, s7⟩ := (hB.belowN hB2).c2; obtain ⟨s8, s9, s10, s11⟩ := (hC.belowN hB2).c2))
      | (go_at_call 78; go_must ((with_reducible refine (HP1.out _).mono ?_); rintro e w1 ⟨rfl, hb1⟩; have hB1 := hd0.trans (hb1.mono hd0.size); obtain ⟨r0, r1, r2, r3⟩ := (hA.belowN hB1).c2; obtain ⟨r4, r5, r6, r7⟩ := (hB.belowN hB1).c2; obtain ⟨r8, r9, r10, r11⟩ := (hC.belowN hB1).c2)))
  have hF := ((hC.belowN hB2).set_ 0 (.int .u64 (sv.toNat : Int))).set_ 1 (.int .u64 (sd.toNat : Int))
  have hB9 := hb0.trans ((hB2).mono hb0.size)
  go_wp2
  try simp only [Exit.then, Exit.inBlock]
  refine bodyPost_ret (results_row_D rfl _ _ g _ #[.int .u64 (sv.toNat : Int), .int .u64 (sd.toNat : Int)] (0, 0) _ rfl hF Try.underlying92 rfl (by kernel_rfl)) rfl ⟨rfl, ?_⟩
  exact (hB9.setCell (p := ⟨g, 0, none⟩) (by first | exact hgw | (simp <;> omega)) _).setCell (p := ⟨g, 1, none⟩) (by first | exact hgw | (simp <;> omega)) _
set_option maxRecDepth 100000 in
set_option maxHeartbeats 1600000 in
theorem Times02_calls (a b : DuD) (w : World) : Calls Try.prog 127 #[a.val, b.val] w fun e w' => e = .returned (mulD a b).val ∧ Below w.heap.size w w' := by
  obtain ⟨av, ad⟩ := a
  obtain ⟨bv, bd⟩ := b
  simp only [mulD, DuD.val]
  obtain ⟨mv, hmv⟩ : ∃ s, av * bv = s := ⟨_, rfl⟩
  obtain ⟨m1, hm1⟩ : ∃ s, av * bd = s := ⟨_, rfl⟩
  obtain ⟨m2, hm2⟩ : ∃ s, ad * bv = s := ⟨_, rfl⟩
  have HT0 := hide (fun W => Times_calls av bv W)
  have HT1 := hide (fun W => Times_calls av bd W)
  have HT2 := hide (fun W => Times_calls ad bv W)
  have HP := hide (fun W => Plus_calls m1 m2 W)
  rw [hmv] at HT0
  rw [hm1] at HT1
  rw [hm2] at HT2
  rw [hmv, hm1, hm2]
  obtain ⟨sd, hsd⟩ : ∃ s, m1 + m2 = s := ⟨_, rfl⟩
  rw [hsd] at HP
  rw [hsd]
  clear hmv hm1 hm2 hsd
  have hA := ((Blk.new w 92 #[.int .u64 (av.toNat : Int), .int .u64 (ad.toNat : Int)]).alloc (.cells #[.int .u64 (bv.toNat : Int), .int .u64 (bd.toNat : Int)] 92)).alloc (.cells #[.int .u64 0, .int .u64 0] 92)
  have hB := (Blk.new (w.alloc (.cells #[.int .u64 (av.toNat : Int), .int .u64 (ad.toNat : Int)] 92)) 92 #[.int .u64 (bv.toNat : Int), .int .u64 (bd.toNat : Int)]).alloc (.cells #[.int .u64 0, .int .u64 0] 92)
  have hC := Blk.new ((w.alloc (.cells #[.int .u64 (av.toNat : Int), .int .u64 (ad.toNat : Int)] 92)).alloc (.cells #[.int .u64 (bv.toNat : Int), .int .u64 (bd.toNat : Int)] 92)) 92 #[.int .u64 0, .int .u64 0]
  simp only [World.size_alloc] at hB hC
  have hb0 := Below.trans (below2 w (.cells #[.int .u64 (av.toNat : Int), .int .u64 (ad.toNat : Int)] 92) (.cells #[.int .u64 (bv.toNat : Int), .int .u64 (bd.toNat : Int)] 92)) ((below_new12 _ (.cells #[.int .u64 0, .int .u64 0] 92)).mono (by simp <;> omega))
  obtain ⟨w0, hw0⟩ : ∃ w0, w0 = (((w.alloc (.cells #[.int .u64 (av.toNat : Int), .int .u64 (ad.toNat : Int)] 92)).alloc (.cells #[.int .u64 (bv.toNat : Int), .int .u64 (bd.toNat : Int)] 92)).alloc (.cells #[.int .u64 0, .int .u64 0] 92)) := ⟨_, rfl⟩
  rw [← hw0] at hA hB hC hb0
  have hz0 : w0.heap.size = w.heap.size + 3 := by rw [hw0]; simp
  have HW0 : Hid ((((w.alloc (.cells #[.int .u64 (av.toNat : Int), .int .u64 (ad.toNat : Int)] 92)).alloc (.cells #[.int .u64 (bv.toNat : Int), .int .u64 (bd.toNat : Int)] 92)).alloc (.cells #[.int .u64 0, .int .u64 0] 92)) = w0) := hide hw0.symm
  clear hw0
  go_enter Try.func127, Try.ntmps127
  go_wp2_with fail
  rw [HW0.out]
  clear HW0
  generalize hg : w.heap.size + 1 + 1 = g at *
  have hne1 : w.heap.size ≠ g := by omega
  have hne2 : w.heap.size + 1 ≠ g := by omega
  have hne3 : g ≠ w.heap.size := by omega
  have hne4 : g ≠ w.heap.size + 1 := by omega
  have hgw : w.heap.size ≤ g := by omega
  clear hg
  obtain ⟨a0, a1, a2, a3⟩ := hA.c2
  obtain ⟨b0, b1, b2, b3⟩ := hB.c2
  obtain ⟨c0, c1, c2, c3⟩ := hC.c2
  have hd0 : Below w0.heap.size w0 w0.drew := Below.drew (Below.refl _ _)
  go_region_held3 (fun w' => w'.cell? ⟨w.heap.size, 0, none⟩ = some (.int .u64 (av.toNat : Int)) ∧ w'.cell? ⟨w.heap.size, 1, none⟩ = some (.int .u64 (ad.toNat : Int)) ∧ w'.cell? ⟨w.heap.size + 1, 0, none⟩ = some (.int .u64 (bv.toNat : Int)) ∧ w'.cell? ⟨w.heap.size + 1, 1, none⟩ = some (.int .u64 (bd.toNat : Int))) (go_keep)
    (first
      | (have hgd := w2; go_at_call 78; go_must ((with_reducible refine (HP.out _).mono ?_); rintro e w3 ⟨rfl, hb3⟩; have hB3 := hB2.trans (hb3.mono hB2.size); obtain ⟨t0, t1, t2, t3⟩ := (hA.belowN hB3).c2; obtain ⟨t4, t5, t6, t7⟩ := (hB.belowN hB3).c2; obtain ⟨t8, t9, t10, t11⟩ := (hC.belowN hB3).c2))
      | (have hgd := w1; go_at_call 79; go_must ((with_reducible refine (HT2.out _).mono ?_); rintro e w2 ⟨rfl, hb2⟩; have hB2 := hB1.trans (hb2.mono hB1.size); obtain ⟨s0, s1, s2, s3⟩ := (hA.belowN hB2).c2; obtain ⟨s4, s5, s6, s7⟩ := (hB.belowN hB2).c2; obtain ⟨s8, s9, s10, s11⟩ := (hC.belowN hB2).c2))
      | (go_at_call 79; go_must ((with_reducible refine (HT1.out _).mono ?_); rintro e w1 ⟨rfl, hb1⟩; have hB1 := hd0.trans (hb1.mono hd0.size); obtain ⟨r0, r1, r2, r3⟩ := (hA.belowN hB1).c2; obtain ⟨r4, r5, r6, r7⟩ := (hB.belowN hB1).c2; obtain ⟨r8, r9, r10, r11⟩ := (hC.belowN hB1).c2)))
  go_wp2_with (go_at_call 79; go_must ((with_reducible refine (HT0.out _).mono ?_); rintro e w4 ⟨rfl, hb4⟩; have hB4 := hB3.trans (hb4.mono hB3.size); obtain ⟨v0, v1, v2, v3⟩ := (hA.belowN hB4).c2; obtain ⟨v4, v5, v6, v7⟩ := (hB.belowN hB4).c2; obtain ⟨v8, v9, v10, v11⟩ := (hC.belowN hB4).c2))
  have hF := ((hC.belowN hB4).set_ 0 (.int .u64 (mv.toNat : Int))).set_ 1 (.int .u64 (sd.toNat : Int))
  have hB9 := hb0.trans ((hB4).mono hb0.size)
  go_wp2
  try simp only [Exit.then, Exit.inBlock]
  refine bodyPost_ret (results_row_D rfl _ _ g _ #[.int .u64 (mv.toNat : Int), .int .u64 (sd.toNat : Int)] (0, 0) _ rfl hF Try.underlying92 rfl (by kernel_rfl)) rfl ⟨rfl, ?_⟩
  exact (hB9.setCell (p := ⟨g, 0, none⟩) (by first | exact hgw | (simp <;> omega)) _).setCell (p := ⟨g, 1, none⟩) (by first | exact hgw | (simp <;> omega)) _
set_option maxRecDepth 100000 in
set_option maxHeartbeats 1600000 in
theorem Neg02_calls (a : DuD) (w : World) : Calls Try.prog 126 #[a.val] w fun e w' => e = .returned (negD a).val ∧ Below w.heap.size w w' := by
  obtain ⟨av, ad⟩ := a
  simp only [negD, DuD.val]
  obtain ⟨sv, hsv⟩ : ∃ s, 0 - av = s := ⟨_, rfl⟩
  obtain ⟨sd, hsd⟩ : ∃ s, 0 - ad = s := ⟨_, rfl⟩
  have HP1 := hide (fun W => Neg_calls av W)
  have HP2 := hide (fun W => Neg_calls ad W)
  rw [hsv] at HP1
  rw [hsd] at HP2
  rw [hsv, hsd]
  clear hsv hsd
  have hA := (Blk.new w 92 #[.int .u64 (av.toNat : Int), .int .u64 (ad.toNat : Int)]).alloc (.cells #[.int .u64 0, .int .u64 0] 92)
  have hC := Blk.new (w.alloc (.cells #[.int .u64 (av.toNat : Int), .int .u64 (ad.toNat : Int)] 92)) 92 #[.int .u64 0, .int .u64 0]
  simp only [World.size_alloc] at hC
  have hb0 := below2 w (.cells #[.int .u64 (av.toNat : Int), .int .u64 (ad.toNat : Int)] 92) (.cells #[.int .u64 0, .int .u64 0] 92)
  obtain ⟨w0, hw0⟩ : ∃ w0, w0 = ((w.alloc (.cells #[.int .u64 (av.toNat : Int), .int .u64 (ad.toNat : Int)] 92)).alloc (.cells #[.int .u64 0, .int .u64 0] 92)) := ⟨_, rfl⟩
  rw [← hw0] at hA hC hb0
  have hz0 : w0.heap.size = w.heap.size + 2 := by rw [hw0]; simp
  have HW0 : Hid (((w.alloc (.cells #[.int .u64 (av.toNat : Int), .int .u64 (ad.toNat : Int)] 92)).alloc (.cells #[.int .u64 0, .int .u64 0] 92)) = w0) := hide hw0.symm
  clear hw0
  go_enter Try.func126, Try.ntmps126
  go_wp2_with fail
  rw [HW0.out]
  clear HW0
  generalize hg : w.heap.size + 1 = g at *
  have hne1 : w.heap.size ≠ g := by omega
  have hne3 : g ≠ w.heap.size := by omega
  have hgw : w.heap.size ≤ g := by omega
  clear hg
  obtain ⟨a0, a1, a2, a3⟩ := hA.c2
  obtain ⟨c0, c1, c2, c3⟩ := hC.c2
  have hd0 : Below w0.heap.size w0 w0.drew := Below.drew (Below.refl _ _)
  go_region_held3 (fun w' => w'.cell? ⟨w.heap.size, 0, none⟩ = some (.int .u64 (av.toNat : Int)) ∧ w'.cell? ⟨w.heap.size, 1, none⟩ = some (.int .u64 (ad.toNat : Int))) (go_keep)
    (first
      | (have hgd := w1; go_at_call 142; go_must ((with_reducible refine (HP2.out _).mono ?_); rintro e w2 ⟨rfl, hb2⟩; have hB2 := hB1.trans (hb2.mono hB1.size); obtain ⟨s0, s1, s2, s3⟩ := (hA.belowN hB2).c2; obtain ⟨s8, s9, s10, s11⟩ := (hC.belowN hB2).c2))
      | (go_at_call 142; go_must ((with_reducible refine (HP1.out _).mono ?_); rintro e w1 ⟨rfl, hb1⟩; have hB1 := hd0.trans (hb1.mono hd0.size); obtain ⟨r0, r1, r2, r3⟩ := (hA.belowN hB1).c2; obtain ⟨r8, r9, r10, r11⟩ := (hC.belowN hB1).c2)))
  have hF := ((hC.belowN hB2).set_ 0 (.int .u64 (sv.toNat : Int))).set_ 1 (.int .u64 (sd.toNat : Int))
  have hB9 := hb0.trans ((hB2).mono hb0.size)
  go_wp2
  try simp only [Exit.then, Exit.inBlock]
  refine bodyPost_ret (results_row_D rfl _ _ g _ #[.int .u64 (sv.toNat : Int), .int .u64 (sd.toNat : Int)] (0, 0) _ rfl hF Try.underlying92 rfl (by kernel_rfl)) rfl ⟨rfl, ?_⟩
  exact (hB9.setCell (p := ⟨g, 0, none⟩) (by first | exact hgw | (simp <;> omega)) _).setCell (p := ⟨g, 1, none⟩) (by first | exact hgw | (simp <;> omega)) _
end Go.Proofs.Ythncfoompoheoaa
