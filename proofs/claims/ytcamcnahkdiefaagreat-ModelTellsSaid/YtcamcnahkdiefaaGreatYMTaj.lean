/- Several texts of mine in one file. -/
import Derived.Deep.RegionHeld3
import Derived.Laws.ResultCell
import Derived.Laws.Rows
import Derived.Scope
import Derived.Test.YtcamcnahkdiefaaGreatYMTai
import Derived.Test.YtcamcnahkdiefaaGreatYMTag
import Derived.Test.YtcamcnahkdiefaaGreatYMTad
import Derived.StillTailTactics
import Derived.Test.YtcamcnahkdiefaaGreatYMTac
import Derived.Deep.RegionLaw
import Derived.Test.YtcamcnahkdiefaaGreatYMTaa
/- Several texts of mine in one file: Du, Do, Dp, Dr, Da. -/
/- Chapters 2, 14: duals: in memory, plain; ref02's walks. -/
namespace Go.Proofs.YtcamcnahkdiefaaGreat
set_option linter.unusedVariables false
set_option linter.unusedSimpArgs false
open Go.RowKit
/-- a dual: its value, its derivative -/
structure DuD where
  v : UInt64
  d : UInt64
  deriving DecidableEq
instance : Flat DuD := ⟨2, fun x => [.int .u64 (x.v.toNat : Int), .int .u64 (x.d.toNat : Int)], fun _ => rfl, fun x u hu => by simp at hu; rcases hu with rfl | rfl <;> rfl, by decide⟩
def DuD.val (x : DuD) : Value := .agg #[.int .u64 (x.v.toNat : Int), .int .u64 (x.d.toNat : Int)]
theorem tyD : Ty Tryz.prog 117 111 DuD := Ty.of (z := .agg #[.int .u64 0, .int .u64 0]) (size := 2) (bytes := 16) Tryz.underlying117 (by kernel_rfl) rfl (by decide) rfl
theorem tyND : TyN Tryz.prog 117 111 (⟨0, 0⟩ : DuD) := TyN.of (z := .agg #[.int .u64 0, .int .u64 0]) (size := 2) (bytes := 16) Tryz.underlying117 (by kernel_rfl) rfl (by decide) rfl
theorem wpList_mkN {P : Program} {ops : Array Oper} {rest : List Oper} {o : Oper} {act : Act} {Q : Exit → Act → World → Prop} {w : World} {T E : TypeId} {α : Type} [Flat α] {z0 : α} (ty : TyN P T E z0) {B n : Nat} {x y : Operand} {k1 k2 : IntKind} {n1 n2 : Int}
    (hgd : o.guard = none) (ho : o.op = .makeSlice T x y) (hx : act.eval x = .int k1 n1) (hy : act.eval y = .int k2 n2) (h1 : n1 = (n : Int)) (h2 : n2 = (n : Int)) (hB : B ≤ w.heap.size) (hn : n ≤ 1000000000)
    (h : ∀ w', Own w' B E (some ⟨w.heap.size, 0, none⟩) n (List.replicate n z0) → w.grownBy w' none → wpList P ops Q rest (act.put o.dst (.slice (some ⟨w.heap.size, 0, none⟩) n n)) w') :
    wpList P ops Q (o :: rest) act w := by
  obtain ⟨i, z, hi, hz, hs, hb, hc⟩ := ty.info
  refine wpList_make_full w hgd x y T ho B E i z (Flat.n α) ty.und hi hz hs k1 k2 n1 n2 n hx hy h1 h2 (Nat.le_trans (Nat.mul_le_mul hb hn) (by decide)) (by simp only [maxLen]; omega) hB fun w' g1 g2 => h w' ?_ g2
  unfold Own
  rw [List.length_replicate]
  have e : (madeCells z.cells (n * Flat.n α)).toList = (List.replicate n z0).flatMap Flat.enc := by
    rw [← zeroCells_flat hc n]
    have hs : z.cells.size = Flat.n α := by rw [← Array.length_toList, hc, Flat.len]
    rw [← hs]
    rfl
  rw [← e]
  exact g1
theorem results_row_D {P : Program} {fn : Func} {p : Tmp} {ty : TypeId} (h : fn.results = #[.cell p ty]) (tmps : Array Value) (w : World) (g : Nat) (t : TypeId) (cs : Array Value) (fr : Nat × Nat) (d : TypeDesc)
    (hp : tmps.getD p undef = .pointer (some ⟨g, 0, none⟩)) (hg : w.heap[g]? = some (.cells cs t fr)) (hu : P.underlying ty = some d) (hd : (match d with | .struct _ | .array _ _ => true | _ => false) = true) (hi : (P.info? ty).map (·.size) = some cs.size) :
    (results fn tmps).run P w = .ok (.agg cs) w := by
  have hp' : tmps[p]?.getD undef = .pointer (some ⟨g, 0, none⟩) := by simpa using hp
  simp only [results, h]
  simp [Sem.run_bind, hp', asAddr, run_loadVar_row w g t ty cs fr d hg hu hd hi, Result.andThen]
def addD (a b : DuD) : DuD := ⟨a.v + b.v, a.d + b.d⟩
def negD (a : DuD) : DuD := ⟨0 - a.v, 0 - a.d⟩
def mulD (a b : DuD) : DuD := ⟨a.v * b.v, a.v * b.d + a.d * b.v⟩
set_option maxRecDepth 100000 in
set_option maxHeartbeats 1600000 in
theorem Plus02_calls (a b : DuD) (w : World) : Calls Tryz.prog 144 #[a.val, b.val] w fun e w' => e = .returned (addD a b).val ∧ Below w.heap.size w w' := by
  obtain ⟨av, ad⟩ := a
  obtain ⟨bv, bd⟩ := b
  simp only [addD, DuD.val]
  obtain ⟨sv, hsv⟩ : ∃ s, av + bv = s := ⟨_, rfl⟩
  obtain ⟨sd, hsd⟩ : ∃ s, ad + bd = s := ⟨_, rfl⟩
  have HP1 := hide (fun W => Plus_calls av bv W)
  have HP2 := hide (fun W => Plus_calls ad bd W)
  rw [hsv] at HP1
  rw [hsd] at HP2
  rw [hsv, hsd]
  clear hsv hsd
  have hA := ((Blk.new w 111 #[.int .u64 (av.toNat : Int), .int .u64 (ad.toNat : Int)]).alloc (.cells #[.int .u64 (bv.toNat : Int), .int .u64 (bd.toNat : Int)] 111)).alloc (.cells #[.int .u64 0, .int .u64 0] 111)
  have hB := (Blk.new (w.alloc (.cells #[.int .u64 (av.toNat : Int), .int .u64 (ad.toNat : Int)] 111)) 111 #[.int .u64 (bv.toNat : Int), .int .u64 (bd.toNat : Int)]).alloc (.cells #[.int .u64 0, .int .u64 0] 111)
  have hC := Blk.new ((w.alloc (.cells #[.int .u64 (av.toNat : Int), .int .u64 (ad.toNat : Int)] 111)).alloc (.cells #[.int .u64 (bv.toNat : Int), .int .u64 (bd.toNat : Int)] 111)) 111 #[.int .u64 0, .int .u64 0]
  simp only [World.size_alloc] at hB hC
  have hb0 := Below.trans (below2 w (.cells #[.int .u64 (av.toNat : Int), .int .u64 (ad.toNat : Int)] 111) (.cells #[.int .u64 (bv.toNat : Int), .int .u64 (bd.toNat : Int)] 111)) ((below_new12 _ (.cells #[.int .u64 0, .int .u64 0] 111)).mono (by simp <;> omega))
  obtain ⟨w0, hw0⟩ : ∃ w0, w0 = (((w.alloc (.cells #[.int .u64 (av.toNat : Int), .int .u64 (ad.toNat : Int)] 111)).alloc (.cells #[.int .u64 (bv.toNat : Int), .int .u64 (bd.toNat : Int)] 111)).alloc (.cells #[.int .u64 0, .int .u64 0] 111)) := ⟨_, rfl⟩
  rw [← hw0] at hA hB hC hb0
  have hz0 : w0.heap.size = w.heap.size + 3 := by rw [hw0]; simp
  have HW0 : Hid ((((w.alloc (.cells #[.int .u64 (av.toNat : Int), .int .u64 (ad.toNat : Int)] 111)).alloc (.cells #[.int .u64 (bv.toNat : Int), .int .u64 (bd.toNat : Int)] 111)).alloc (.cells #[.int .u64 0, .int .u64 0] 111)) = w0) := hide hw0.symm
  clear hw0
  go_enter Tryz.func144, Tryz.ntmps144
  go_wp2_with fail
  rw [HW0.out]
  clear HW0
  generalize hg : w.heap.size + 1 + 1 = g at *
  have hne1 : w.heap.size ≠ g := by omega
  have hne2 : w.heap.size + 1 ≠ g := by omega
  have hne3 : g ≠ w.heap.size := by omega
  have hne4 : g ≠ w.heap.size + 1 := by omega
  have hgw : w.heap.size ≤ g := by omega
  clear hg
  obtain ⟨a0, a1, a2, a3⟩ := hA.c2
  obtain ⟨b0, b1, b2, b3⟩ := hB.c2
  obtain ⟨c0, c1, c2, c3⟩ := hC.c2
  have hd0 : Below w0.heap.size w0 w0.drew := Below.drew (Below.refl _ _)
  go_region_held3 (fun w' => w'.cell? ⟨w.heap.size, 0, none⟩ = some (.int .u64 (av.toNat : Int)) ∧ w'.cell? ⟨w.heap.size, 1, none⟩ = some (.int .u64 (ad.toNat : Int)) ∧ w'.cell? ⟨w.heap.size + 1, 0, none⟩ = some (.int .u64 (bv.toNat : Int)) ∧ w'.cell? ⟨w.heap.size + 1, 1, none⟩ = some (.int .u64 (bd.toNat : Int))) (go_keep)
    (first
      | (have hgd := w1; go_at_call 167; go_must ((with_reducible refine (HP2.out _).mono ?_); rintro e w2 ⟨rfl, hb2⟩; have hB2 := hB1.trans (hb2.mono hB1.size); obtain ⟨s0, s1, s2, s3⟩ := (hA.belowN hB2).c2; obtain ⟨s4, s5, s6, s7⟩ := (hB.belowN hB2).c2; obtain ⟨s8, s9, s10, s11⟩ := (hC.belowN hB2).c2))
      | (go_at_call 167; go_must ((with_reducible refine (HP1.out _).mono ?_); rintro e w1 ⟨rfl, hb1⟩; have hB1 := hd0.trans (hb1.mono hd0.size); obtain ⟨r0, r1, r2, r3⟩ := (hA.belowN hB1).c2; obtain ⟨r4, r5, r6, r7⟩ := (hB.belowN hB1).c2; obtain ⟨r8, r9, r10, r11⟩ := (hC.belowN hB1).c2)))
  have hF := ((hC.belowN hB2).set_ 0 (.int .u64 (sv.toNat : Int))).set_ 1 (.int .u64 (sd.toNat : Int))
  have hB9 := hb0.trans ((hB2).mono hb0.size)
  go_wp2
  try simp only [Exit.then, Exit.inBlock]
  refine bodyPost_ret (results_row_D rfl _ _ g _ #[.int .u64 (sv.toNat : Int), .int .u64 (sd.toNat : Int)] (0, 0) _ rfl hF Tryz.underlying111 rfl (by kernel_rfl)) rfl ⟨rfl, ?_⟩
  exact (hB9.setCell (p := ⟨g, 0, none⟩) (by first | exact hgw | (simp <;> omega)) _).setCell (p := ⟨g, 1, none⟩) (by first | exact hgw | (simp <;> omega)) _
set_option maxRecDepth 100000 in
set_option maxHeartbeats 1600000 in
theorem Times02_calls (a b : DuD) (w : World) : Calls Tryz.prog 146 #[a.val, b.val] w fun e w' => e = .returned (mulD a b).val ∧ Below w.heap.size w w' := by
  obtain ⟨av, ad⟩ := a
  obtain ⟨bv, bd⟩ := b
  simp only [mulD, DuD.val]
  obtain ⟨mv, hmv⟩ : ∃ s, av * bv = s := ⟨_, rfl⟩
  obtain ⟨m1, hm1⟩ : ∃ s, av * bd = s := ⟨_, rfl⟩
  obtain ⟨m2, hm2⟩ : ∃ s, ad * bv = s := ⟨_, rfl⟩
  have HT0 := hide (fun W => Times_calls av bv W)
  have HT1 := hide (fun W => Times_calls av bd W)
  have HT2 := hide (fun W => Times_calls ad bv W)
  have HP := hide (fun W => Plus_calls m1 m2 W)
  rw [hmv] at HT0
  rw [hm1] at HT1
  rw [hm2] at HT2
  rw [hmv, hm1, hm2]
  obtain ⟨sd, hsd⟩ : ∃ s, m1 + m2 = s := ⟨_, rfl⟩
  rw [hsd] at HP
  rw [hsd]
  clear hmv hm1 hm2 hsd
  have hA := ((Blk.new w 111 #[.int .u64 (av.toNat : Int), .int .u64 (ad.toNat : Int)]).alloc (.cells #[.int .u64 (bv.toNat : Int), .int .u64 (bd.toNat : Int)] 111)).alloc (.cells #[.int .u64 0, .int .u64 0] 111)
  have hB := (Blk.new (w.alloc (.cells #[.int .u64 (av.toNat : Int), .int .u64 (ad.toNat : Int)] 111)) 111 #[.int .u64 (bv.toNat : Int), .int .u64 (bd.toNat : Int)]).alloc (.cells #[.int .u64 0, .int .u64 0] 111)
  have hC := Blk.new ((w.alloc (.cells #[.int .u64 (av.toNat : Int), .int .u64 (ad.toNat : Int)] 111)).alloc (.cells #[.int .u64 (bv.toNat : Int), .int .u64 (bd.toNat : Int)] 111)) 111 #[.int .u64 0, .int .u64 0]
  simp only [World.size_alloc] at hB hC
  have hb0 := Below.trans (below2 w (.cells #[.int .u64 (av.toNat : Int), .int .u64 (ad.toNat : Int)] 111) (.cells #[.int .u64 (bv.toNat : Int), .int .u64 (bd.toNat : Int)] 111)) ((below_new12 _ (.cells #[.int .u64 0, .int .u64 0] 111)).mono (by simp <;> omega))
  obtain ⟨w0, hw0⟩ : ∃ w0, w0 = (((w.alloc (.cells #[.int .u64 (av.toNat : Int), .int .u64 (ad.toNat : Int)] 111)).alloc (.cells #[.int .u64 (bv.toNat : Int), .int .u64 (bd.toNat : Int)] 111)).alloc (.cells #[.int .u64 0, .int .u64 0] 111)) := ⟨_, rfl⟩
  rw [← hw0] at hA hB hC hb0
  have hz0 : w0.heap.size = w.heap.size + 3 := by rw [hw0]; simp
  have HW0 : Hid ((((w.alloc (.cells #[.int .u64 (av.toNat : Int), .int .u64 (ad.toNat : Int)] 111)).alloc (.cells #[.int .u64 (bv.toNat : Int), .int .u64 (bd.toNat : Int)] 111)).alloc (.cells #[.int .u64 0, .int .u64 0] 111)) = w0) := hide hw0.symm
  clear hw0
  go_enter Tryz.func146, Tryz.ntmps146
  go_wp2_with fail
  rw [HW0.out]
  clear HW0
  generalize hg : w.heap.size + 1 + 1 = g at *
  have hne1 : w.heap.size ≠ g := by omega
  have hne2 : w.heap.size + 1 ≠ g := by omega
  have hne3 : g ≠ w.heap.size := by omega
  have hne4 : g ≠ w.heap.size + 1 := by omega
  have hgw : w.heap.size ≤ g := by omega
  clear hg
  obtain ⟨a0, a1, a2, a3⟩ := hA.c2
  obtain ⟨b0, b1, b2, b3⟩ := hB.c2
  obtain ⟨c0, c1, c2, c3⟩ := hC.c2
  have hd0 : Below w0.heap.size w0 w0.drew := Below.drew (Below.refl _ _)
  go_region_held3 (fun w' => w'.cell? ⟨w.heap.size, 0, none⟩ = some (.int .u64 (av.toNat : Int)) ∧ w'.cell? ⟨w.heap.size, 1, none⟩ = some (.int .u64 (ad.toNat : Int)) ∧ w'.cell? ⟨w.heap.size + 1, 0, none⟩ = some (.int .u64 (bv.toNat : Int)) ∧ w'.cell? ⟨w.heap.size + 1, 1, none⟩ = some (.int .u64 (bd.toNat : Int))) (go_keep)
    (first
      | (have hgd := w2; go_at_call 167; go_must ((with_reducible refine (HP.out _).mono ?_); rintro e w3 ⟨rfl, hb3⟩; have hB3 := hB2.trans (hb3.mono hB2.size); obtain ⟨t0, t1, t2, t3⟩ := (hA.belowN hB3).c2; obtain ⟨t4, t5, t6, t7⟩ := (hB.belowN hB3).c2; obtain ⟨t8, t9, t10, t11⟩ := (hC.belowN hB3).c2))
      | (have hgd := w1; go_at_call 94; go_must ((with_reducible refine (HT2.out _).mono ?_); rintro e w2 ⟨rfl, hb2⟩; have hB2 := hB1.trans (hb2.mono hB1.size); obtain ⟨s0, s1, s2, s3⟩ := (hA.belowN hB2).c2; obtain ⟨s4, s5, s6, s7⟩ := (hB.belowN hB2).c2; obtain ⟨s8, s9, s10, s11⟩ := (hC.belowN hB2).c2))
      | (go_at_call 94; go_must ((with_reducible refine (HT1.out _).mono ?_); rintro e w1 ⟨rfl, hb1⟩; have hB1 := hd0.trans (hb1.mono hd0.size); obtain ⟨r0, r1, r2, r3⟩ := (hA.belowN hB1).c2; obtain ⟨r4, r5, r6, r7⟩ := (hB.belowN hB1).c2; obtain ⟨r8, r9, r10, r11⟩ := (hC.belowN hB1).c2)))
  go_wp2_with (go_at_call 94; go_must ((with_reducible refine (HT0.out _).mono ?_); rintro e w4 ⟨rfl, hb4⟩; have hB4 := hB3.trans (hb4.mono hB3.size); obtain ⟨v0, v1, v2, v3⟩ := (hA.belowN hB4).c2; obtain ⟨v4, v5, v6, v7⟩ := (hB.belowN hB4).c2; obtain ⟨v8, v9, v10, v11⟩ := (hC.belowN hB4).c2))
  have hF := ((hC.belowN hB4).set_ 0 (.int .u64 (mv.toNat : Int))).set_ 1 (.int .u64 (sd.toNat : Int))
  have hB9 := hb0.trans ((hB4).mono hb0.size)
  go_wp2
  try simp only [Exit.then, Exit.inBlock]
  refine bodyPost_ret (results_row_D rfl _ _ g _ #[.int .u64 (mv.toNat : Int), .int .u64 (sd.toNat : Int)] (0, 0) _ rfl hF Tryz.underlying111 rfl (by kernel_rfl)) rfl ⟨rfl, ?_⟩
  exact (hB9.setCell (p := ⟨g, 0, none⟩) (by first | exact hgw | (simp <;> omega)) _).setCell (p := ⟨g, 1, none⟩) (by first | exact hgw | (simp <;> omega)) _
set_option maxRecDepth 100000 in
set_option maxHeartbeats 1600000 in
theorem Neg02_calls (a : DuD) (w : World) : Calls Tryz.prog 145 #[a.val] w fun e w' => e = .returned (negD a).val ∧ Below w.heap.size w w' := by
  obtain ⟨av, ad⟩ := a
  simp only [negD, DuD.val]
  obtain ⟨sv, hsv⟩ : ∃ s, 0 - av = s := ⟨_, rfl⟩
  obtain ⟨sd, hsd⟩ : ∃ s, 0 - ad = s := ⟨_, rfl⟩
  have HP1 := hide (fun W => Neg_calls av W)
  have HP2 := hide (fun W => Neg_calls ad W)
  rw [hsv] at HP1
  rw [hsd] at HP2
  rw [hsv, hsd]
  clear hsv hsd
  have hA := (Blk.new w 111 #[.int .u64 (av.toNat : Int), .int .u64 (ad.toNat : Int)]).alloc (.cells #[.int .u64 0, .int .u64 0] 111)
  have hC := Blk.new (w.alloc (.cells #[.int .u64 (av.toNat : Int), .int .u64 (ad.toNat : Int)] 111)) 111 #[.int .u64 0, .int .u64 0]
  simp only [World.size_alloc] at hC
  have hb0 := below2 w (.cells #[.int .u64 (av.toNat : Int), .int .u64 (ad.toNat : Int)] 111) (.cells #[.int .u64 0, .int .u64 0] 111)
  obtain ⟨w0, hw0⟩ : ∃ w0, w0 = ((w.alloc (.cells #[.int .u64 (av.toNat : Int), .int .u64 (ad.toNat : Int)] 111)).alloc (.cells #[.int .u64 0, .int .u64 0] 111)) := ⟨_, rfl⟩
  rw [← hw0] at hA hC hb0
  have hz0 : w0.heap.size = w.heap.size + 2 := by rw [hw0]; simp
  have HW0 : Hid (((w.alloc (.cells #[.int .u64 (av.toNat : Int), .int .u64 (ad.toNat : Int)] 111)).alloc (.cells #[.int .u64 0, .int .u64 0] 111)) = w0) := hide hw0.symm
  clear hw0
  go_enter Tryz.func145, Tryz.ntmps145
  go_wp2_with fail
  rw [HW0.out]
  clear HW0
  generalize hg : w.heap.size + 1 = g at *
  have hne1 : w.heap.size ≠ g := by omega
  have hne3 : g ≠ w.heap.size := by omega
  have hgw : w.heap.size ≤ g := by omega
  clear hg
  obtain ⟨a0, a1, a2, a3⟩ := hA.c2
  obtain ⟨c0, c1, c2, c3⟩ := hC.c2
  have hd0 : Below w0.heap.size w0 w0.drew := Below.drew (Below.refl _ _)
  go_region_held3 (fun w' => w'.cell? ⟨w.heap.size, 0, none⟩ = some (.int .u64 (av.toNat : Int)) ∧ w'.cell? ⟨w.heap.size, 1, none⟩ = some (.int .u64 (ad.toNat : Int))) (go_keep)
    (first
      | (have hgd := w1; go_at_call 164; go_must ((with_reducible refine (HP2.out _).mono ?_); rintro e w2 ⟨rfl, hb2⟩; have hB2 := hB1.trans (hb2.mono hB1.size); obtain ⟨s0, s1, s2, s3⟩ := (hA.belowN hB2).c2; obtain ⟨s8, s9, s10, s11⟩ := (hC.belowN hB2).c2))
      | (go_at_call 164; go_must ((with_reducible refine (HP1.out _).mono ?_); rintro e w1 ⟨rfl, hb1⟩; have hB1 := hd0.trans (hb1.mono hd0.size); obtain ⟨r0, r1, r2, r3⟩ := (hA.belowN hB1).c2; obtain ⟨r8, r9, r10, r11⟩ := (hC.belowN hB1).c2)))
  have hF := ((hC.belowN hB2).set_ 0 (.int .u64 (sv.toNat : Int))).set_ 1 (.int .u64 (sd.toNat : Int))
  have hB9 := hb0.trans ((hB2).mono hb0.size)
  go_wp2
  try simp only [Exit.then, Exit.inBlock]
  refine bodyPost_ret (results_row_D rfl _ _ g _ #[.int .u64 (sv.toNat : Int), .int .u64 (sd.toNat : Int)] (0, 0) _ rfl hF Tryz.underlying111 rfl (by kernel_rfl)) rfl ⟨rfl, ?_⟩
  exact (hB9.setCell (p := ⟨g, 0, none⟩) (by first | exact hgw | (simp <;> omega)) _).setCell (p := ⟨g, 1, none⟩) (by first | exact hgw | (simp <;> omega)) _
end Go.Proofs.YtcamcnahkdiefaaGreat

/- Chapter 14: what an operation makes of duals (ref14.does). -/
namespace Go.Proofs.YtcamcnahkdiefaaGreat
set_option linter.unusedVariables false
set_option linter.unusedSimpArgs false
open Go.RowKit
def doesD (x : OpD) (a b : DuD) : DuD :=
  if x.kind = 1 then addD a b else if x.kind = 2 then addD a (negD b) else if x.kind = 3 then mulD a b else if x.kind = 4 then negD a else if x.kind = 5 then ⟨x.v, 0⟩ else a
set_option maxRecDepth 100000 in
set_option maxHeartbeats 3200000 in
theorem Does14_calls (x : OpD) (a b : DuD) (w : World) (hk : -9223372036854775808 ≤ x.kind ∧ x.kind ≤ 9223372036854775807) :
    Calls Tryz.prog 109 #[.agg #[.int .i64 x.kind, .int .i64 x.d, .int .i64 x.a, .int .i64 x.b, .int .u64 (x.v.toNat : Int)], a.val, b.val] w fun e w' => e = .returned (doesD x a b).val ∧ Below w.heap.size w w' := by
  have HAB := hide (fun W => Plus02_calls a b W)
  have HNB := hide (fun W => Neg02_calls b W)
  have HANB := hide (fun W => Plus02_calls a (negD b) W)
  have HM := hide (fun W => Times02_calls a b W)
  have HNA := hide (fun W => Neg02_calls a W)
  obtain ⟨k, d, xa, xb, v⟩ := x
  simp only [doesD] at *
  obtain ⟨av, ad⟩ := a
  obtain ⟨bv, bd⟩ := b
  have hO := (((Blk.new w 89 #[.int .i64 k, .int .i64 d, .int .i64 xa, .int .i64 xb, .int .u64 (v.toNat : Int)]).alloc (.cells #[.int .u64 (av.toNat : Int), .int .u64 (ad.toNat : Int)] 111)).alloc (.cells #[.int .u64 (bv.toNat : Int), .int .u64 (bd.toNat : Int)] 111)).alloc (.cells #[.int .u64 0, .int .u64 0] 111)
  have hA := ((Blk.new (w.alloc (.cells #[.int .i64 k, .int .i64 d, .int .i64 xa, .int .i64 xb, .int .u64 (v.toNat : Int)] 89)) 111 #[.int .u64 (av.toNat : Int), .int .u64 (ad.toNat : Int)]).alloc (.cells #[.int .u64 (bv.toNat : Int), .int .u64 (bd.toNat : Int)] 111)).alloc (.cells #[.int .u64 0, .int .u64 0] 111)
  have hB := (Blk.new ((w.alloc (.cells #[.int .i64 k, .int .i64 d, .int .i64 xa, .int .i64 xb, .int .u64 (v.toNat : Int)] 89)).alloc (.cells #[.int .u64 (av.toNat : Int), .int .u64 (ad.toNat : Int)] 111)) 111 #[.int .u64 (bv.toNat : Int), .int .u64 (bd.toNat : Int)]).alloc (.cells #[.int .u64 0, .int .u64 0] 111)
  have hC := Blk.new (((w.alloc (.cells #[.int .i64 k, .int .i64 d, .int .i64 xa, .int .i64 xb, .int .u64 (v.toNat : Int)] 89)).alloc (.cells #[.int .u64 (av.toNat : Int), .int .u64 (ad.toNat : Int)] 111)).alloc (.cells #[.int .u64 (bv.toNat : Int), .int .u64 (bd.toNat : Int)] 111)) 111 #[.int .u64 0, .int .u64 0]
  simp only [World.size_alloc] at hA hB hC
  have hb0 := (below2 w (.cells #[.int .i64 k, .int .i64 d, .int .i64 xa, .int .i64 xb, .int .u64 (v.toNat : Int)] 89) (.cells #[.int .u64 (av.toNat : Int), .int .u64 (ad.toNat : Int)] 111)).trans ((below2 _ (.cells #[.int .u64 (bv.toNat : Int), .int .u64 (bd.toNat : Int)] 111) (.cells #[.int .u64 0, .int .u64 0] 111)).mono (by simp <;> omega))
  obtain ⟨w0, hw0⟩ : ∃ w0, w0 = (((w.alloc (.cells #[.int .i64 k, .int .i64 d, .int .i64 xa, .int .i64 xb, .int .u64 (v.toNat : Int)] 89)).alloc (.cells #[.int .u64 (av.toNat : Int), .int .u64 (ad.toNat : Int)] 111)).alloc (.cells #[.int .u64 (bv.toNat : Int), .int .u64 (bd.toNat : Int)] 111)).alloc (.cells #[.int .u64 0, .int .u64 0] 111) := ⟨_, rfl⟩
  rw [← hw0] at hO hA hB hC hb0
  have hz0 : w0.heap.size = w.heap.size + 4 := by rw [hw0]; simp
  have HE : Hid (∀ P : World → Prop, P w0 → P ((((w.alloc (.cells #[.int .i64 k, .int .i64 d, .int .i64 xa, .int .i64 xb, .int .u64 (v.toNat : Int)] 89)).alloc (.cells #[.int .u64 (av.toNat : Int), .int .u64 (ad.toNat : Int)] 111)).alloc (.cells #[.int .u64 (bv.toNat : Int), .int .u64 (bd.toNat : Int)] 111)).alloc (.cells #[.int .u64 0, .int .u64 0] 111))) := hide fun P h => by rw [← hw0]; exact h
  have HW0 : Hid ((((w.alloc (.cells #[.int .i64 k, .int .i64 d, .int .i64 xa, .int .i64 xb, .int .u64 (v.toNat : Int)] 89)).alloc (.cells #[.int .u64 (av.toNat : Int), .int .u64 (ad.toNat : Int)] 111)).alloc (.cells #[.int .u64 (bv.toNat : Int), .int .u64 (bd.toNat : Int)] 111)).alloc (.cells #[.int .u64 0, .int .u64 0] 111) = w0) := hide hw0.symm
  clear hw0 HE
  obtain ⟨o0, o1, o2, o3, o4, o5, o6, o7, o8, o9⟩ := hO.c5
  obtain ⟨a0, a1, a2, a3⟩ := hA.c2
  obtain ⟨b0, b1, b2, b3⟩ := hB.c2
  obtain ⟨c0, c1, c2, c3⟩ := hC.c2
  by_cases k1 : k = 1
  · subst k1
    rw [if_pos rfl]
    obtain ⟨S, hS⟩ : ∃ S, addD ⟨av, ad⟩ ⟨bv, bd⟩ = S := ⟨_, rfl⟩
    rw [hS] at HAB
    rw [hS]
    clear hS
    obtain ⟨sv, sd⟩ := S
    simp only [DuD.val] at *
    go_enter Tryz.func109, Tryz.ntmps109
    go_wp2_with (go_at_call 144; go_must (rw [HW0.out]; (with_reducible refine (HAB.out w0).mono ?_); rintro e w1 ⟨rfl, hB1⟩; obtain ⟨r8, r9, r10, r11⟩ := (hC.belowN hB1).c2))
    have hF := ((hC.belowN hB1).set_ 0 (.int .u64 (sv.toNat : Int))).set_ 1 (.int .u64 (sd.toNat : Int))
    have hB9 := hb0.trans ((hB1).mono hb0.size)
    try go_wp2
    try simp only [Exit.then, Exit.inBlock]
    refine bodyPost_ret (results_row_D rfl _ _ (w.heap.size + 1 + 1 + 1) _ #[.int .u64 (sv.toNat : Int), .int .u64 (sd.toNat : Int)] (0, 0) _ rfl hF Tryz.underlying111 rfl (by kernel_rfl)) rfl ⟨rfl, ?_⟩
    exact (hB9.setCell (p := ⟨w.heap.size + 1 + 1 + 1, 0, none⟩) (by first | exact hgw | (simp <;> omega)) _).setCell (p := ⟨w.heap.size + 1 + 1 + 1, 1, none⟩) (by first | exact hgw | (simp <;> omega)) _
  rw [if_neg k1]
  by_cases k2 : k = 2
  · subst k2
    clear k1
    rw [if_pos rfl]
    obtain ⟨N, hN⟩ : ∃ N, negD ⟨bv, bd⟩ = N := ⟨_, rfl⟩
    rw [hN] at HNB HANB
    rw [hN]
    obtain ⟨S, hS⟩ : ∃ S, addD ⟨av, ad⟩ N = S := ⟨_, rfl⟩
    rw [hS] at HANB
    rw [hS]
    clear hS hN
    obtain ⟨nv, nd⟩ := N
    obtain ⟨sv, sd⟩ := S
    simp only [DuD.val] at *
    go_enter Tryz.func109, Tryz.ntmps109
    go_wp2_with fail
    rw [HW0.out]
    clear HW0
    generalize hg : w.heap.size + 1 + 1 + 1 = g at *
    have hne1 : g ≠ w.heap.size := by omega
    have hne2 : g ≠ w.heap.size + 1 := by omega
    have hne3 : g ≠ w.heap.size + 1 + 1 := by omega
    have hgw : w.heap.size ≤ g := by omega
    clear hg
    have hd0 : Below w0.heap.size w0 w0.drew := Below.drew (Below.refl _ _)
    go_region_held3 (fun w' => w'.cell? ⟨w.heap.size + 1, 0, none⟩ = some (.int .u64 (av.toNat : Int)) ∧ w'.cell? ⟨w.heap.size + 1, 1, none⟩ = some (.int .u64 (ad.toNat : Int)) ∧ w'.cell? ⟨w.heap.size + 1 + 1, 0, none⟩ = some (.int .u64 (bv.toNat : Int)) ∧ w'.cell? ⟨w.heap.size + 1 + 1, 1, none⟩ = some (.int .u64 (bd.toNat : Int))) (go_keep)
      (first
        | (go_at_call 144; go_must ((with_reducible refine (HANB.out _).mono ?_); rintro e w2 ⟨rfl, hb2⟩; have hB2 := hB1.trans (hb2.mono hB1.size); obtain ⟨s0, s1, s2, s3⟩ := (hA.belowN hB2).c2; obtain ⟨s4, s5, s6, s7⟩ := (hB.belowN hB2).c2; obtain ⟨s8, s9, s10, s11⟩ := (hC.belowN hB2).c2))
        | (go_at_call 145; go_must ((with_reducible refine (HNB.out _).mono ?_); rintro e w1 ⟨rfl, hb1⟩; have hB1 := hd0.trans (hb1.mono hd0.size); obtain ⟨r0, r1, r2, r3⟩ := (hA.belowN hB1).c2; obtain ⟨r4, r5, r6, r7⟩ := (hB.belowN hB1).c2; obtain ⟨r8, r9, r10, r11⟩ := (hC.belowN hB1).c2)))
    have hF := ((hC.belowN hB2).set_ 0 (.int .u64 (sv.toNat : Int))).set_ 1 (.int .u64 (sd.toNat : Int))
    have hB9 := hb0.trans ((hB2).mono hb0.size)
    try go_wp2
    try simp only [Exit.then, Exit.inBlock]
    refine bodyPost_ret (results_row_D rfl _ _ (g) _ #[.int .u64 (sv.toNat : Int), .int .u64 (sd.toNat : Int)] (0, 0) _ rfl hF Tryz.underlying111 rfl (by kernel_rfl)) rfl ⟨rfl, ?_⟩
    exact (hB9.setCell (p := ⟨g, 0, none⟩) (by first | exact hgw | (simp <;> omega)) _).setCell (p := ⟨g, 1, none⟩) (by first | exact hgw | (simp <;> omega)) _
  rw [if_neg k2]
  by_cases k3 : k = 3
  · subst k3
    clear k1 k2
    rw [if_pos rfl]
    obtain ⟨S, hS⟩ : ∃ S, mulD ⟨av, ad⟩ ⟨bv, bd⟩ = S := ⟨_, rfl⟩
    rw [hS] at HM
    rw [hS]
    clear hS
    obtain ⟨sv, sd⟩ := S
    simp only [DuD.val] at *
    go_enter Tryz.func109, Tryz.ntmps109
    go_wp2_with (go_at_call 146; go_must (rw [HW0.out]; (with_reducible refine (HM.out w0).mono ?_); rintro e w1 ⟨rfl, hB1⟩; obtain ⟨r8, r9, r10, r11⟩ := (hC.belowN hB1).c2))
    have hF := ((hC.belowN hB1).set_ 0 (.int .u64 (sv.toNat : Int))).set_ 1 (.int .u64 (sd.toNat : Int))
    have hB9 := hb0.trans ((hB1).mono hb0.size)
    try go_wp2
    try simp only [Exit.then, Exit.inBlock]
    refine bodyPost_ret (results_row_D rfl _ _ (w.heap.size + 1 + 1 + 1) _ #[.int .u64 (sv.toNat : Int), .int .u64 (sd.toNat : Int)] (0, 0) _ rfl hF Tryz.underlying111 rfl (by kernel_rfl)) rfl ⟨rfl, ?_⟩
    exact (hB9.setCell (p := ⟨w.heap.size + 1 + 1 + 1, 0, none⟩) (by first | exact hgw | (simp <;> omega)) _).setCell (p := ⟨w.heap.size + 1 + 1 + 1, 1, none⟩) (by first | exact hgw | (simp <;> omega)) _
  rw [if_neg k3]
  by_cases k4 : k = 4
  · subst k4
    clear k1 k2 k3
    rw [if_pos rfl]
    obtain ⟨S, hS⟩ : ∃ S, negD ⟨av, ad⟩ = S := ⟨_, rfl⟩
    rw [hS] at HNA
    rw [hS]
    clear hS
    obtain ⟨sv, sd⟩ := S
    simp only [DuD.val] at *
    go_enter Tryz.func109, Tryz.ntmps109
    go_wp2_with (go_at_call 145; go_must (rw [HW0.out]; (with_reducible refine (HNA.out w0).mono ?_); rintro e w1 ⟨rfl, hB1⟩; obtain ⟨r8, r9, r10, r11⟩ := (hC.belowN hB1).c2))
    have hF := ((hC.belowN hB1).set_ 0 (.int .u64 (sv.toNat : Int))).set_ 1 (.int .u64 (sd.toNat : Int))
    have hB9 := hb0.trans ((hB1).mono hb0.size)
    try go_wp2
    try simp only [Exit.then, Exit.inBlock]
    refine bodyPost_ret (results_row_D rfl _ _ (w.heap.size + 1 + 1 + 1) _ #[.int .u64 (sv.toNat : Int), .int .u64 (sd.toNat : Int)] (0, 0) _ rfl hF Tryz.underlying111 rfl (by kernel_rfl)) rfl ⟨rfl, ?_⟩
    exact (hB9.setCell (p := ⟨w.heap.size + 1 + 1 + 1, 0, none⟩) (by first | exact hgw | (simp <;> omega)) _).setCell (p := ⟨w.heap.size + 1 + 1 + 1, 1, none⟩) (by first | exact hgw | (simp <;> omega)) _
  rw [if_neg k4]
  have hB1 := Below.refl w0.heap.size w0
  by_cases k5 : k = 5
  · subst k5
    clear k1 k2 k3 k4
    rw [if_pos rfl]
    simp only [DuD.val] at *
    go_enter Tryz.func109, Tryz.ntmps109
    go_wp2
    have hF := Blk.new (((w.alloc (.cells #[.int .i64 5, .int .i64 d, .int .i64 xa, .int .i64 xb, .int .u64 (v.toNat : Int)] 89)).alloc (.cells #[.int .u64 (av.toNat : Int), .int .u64 (ad.toNat : Int)] 111)).alloc (.cells #[.int .u64 (bv.toNat : Int), .int .u64 (bd.toNat : Int)] 111)) 111 #[.int .u64 (v.toNat : Int), .int .u64 0]
    simp only [World.size_alloc] at hF
    refine bodyPost_ret (results_row_D rfl _ _ (w.heap.size + 1 + 1 + 1) _ #[.int .u64 (v.toNat : Int), .int .u64 0] (0, 0) _ rfl hF Tryz.underlying111 rfl (by kernel_rfl)) rfl ⟨rfl, ?_⟩
    exact (below2 w (.cells #[.int .i64 5, .int .i64 d, .int .i64 xa, .int .i64 xb, .int .u64 (v.toNat : Int)] 89) (.cells #[.int .u64 (av.toNat : Int), .int .u64 (ad.toNat : Int)] 111)).trans ((below2 _ (.cells #[.int .u64 (bv.toNat : Int), .int .u64 (bd.toNat : Int)] 111) (.cells #[.int .u64 (v.toNat : Int), .int .u64 0] 111)).mono (by simp <;> omega))
  · rw [if_neg k5]
    have d1 : (k == 1) = false := by simpa using k1
    have d2 : (k == 2) = false := by simpa using k2
    have d3 : (k == 3) = false := by simpa using k3
    have d4 : (k == 4) = false := by simpa using k4
    have d5 : (k == 5) = false := by simpa using k5
    clear k1 k2 k3 k4 k5
    simp only [DuD.val] at *
    go_enter Tryz.func109, Tryz.ntmps109
    go_wp2
    have hF := Blk.new (((w.alloc (.cells #[.int .i64 k, .int .i64 d, .int .i64 xa, .int .i64 xb, .int .u64 (v.toNat : Int)] 89)).alloc (.cells #[.int .u64 (av.toNat : Int), .int .u64 (ad.toNat : Int)] 111)).alloc (.cells #[.int .u64 (bv.toNat : Int), .int .u64 (bd.toNat : Int)] 111)) 111 #[.int .u64 (av.toNat : Int), .int .u64 (ad.toNat : Int)]
    simp only [World.size_alloc] at hF
    refine bodyPost_ret (results_row_D rfl _ _ (w.heap.size + 1 + 1 + 1) _ #[.int .u64 (av.toNat : Int), .int .u64 (ad.toNat : Int)] (0, 0) _ rfl hF Tryz.underlying111 rfl (by kernel_rfl)) rfl ⟨rfl, ?_⟩
    exact (below2 w (.cells #[.int .i64 k, .int .i64 d, .int .i64 xa, .int .i64 xb, .int .u64 (v.toNat : Int)] 89) (.cells #[.int .u64 (av.toNat : Int), .int .u64 (ad.toNat : Int)] 111)).trans ((below2 _ (.cells #[.int .u64 (bv.toNat : Int), .int .u64 (bd.toNat : Int)] 111) (.cells #[.int .u64 (av.toNat : Int), .int .u64 (ad.toNat : Int)] 111)).mono (by simp <;> omega))
end Go.Proofs.YtcamcnahkdiefaaGreat

/- Runs on duals, plain: a run on duals is a run and a run of tangents. No program is named here. -/
namespace Go.Proofs.YtcamcnahkdiefaaGreat
set_option linter.unusedVariables false
set_option linter.unusedSimpArgs false
open Go.RowKit
def getD14 (r : List DuD) (i : Int) : DuD := (r[i.toNat]?).getD ⟨0, 0⟩
def stepD (r : List DuD) (x : OpD) : List DuD := r.set x.d.toNat (doesD x (getD14 r x.a) (getD14 r x.b))
def runD (l : List OpD) (r : List DuD) : List DuD := l.foldl stepD r
theorem stepD_length (r : List DuD) (x : OpD) : (stepD r x).length = r.length := by simp [stepD]
theorem runD_length (l : List OpD) (r : List DuD) : (runD l r).length = r.length := by
  induction l generalizing r with
  | nil => rfl
  | cons x l ih => show (runD l (stepD r x)).length = _; rw [ih, stepD_length]
theorem runD_append (a b : List OpD) (r : List DuD) : runD (a ++ b) r = runD b (runD a r) := List.foldl_append ..
theorem runD_snoc (l : List OpD) (r : List DuD) {k : Nat} {x : OpD} (h : l[k]? = some x) : runD (l.take (k + 1)) r = stepD (runD (l.take k) r) x := by
  rw [List.take_add_one, h]
  show runD (l.take k ++ [x]) r = _
  rw [runD_append]
  rfl
theorem doesD_eq (x : OpD) (a b : DuD) (h1 : 1 ≤ x.kind) (h2 : x.kind ≤ 6) : doesD x a b = ⟨applyU x a.v b.v, (partU x a.v b.v).1 * a.d + (partU x a.v b.v).2 * b.d⟩ := by
  obtain ⟨k, d, xa, xb, v⟩ := x
  obtain ⟨av, ad⟩ := a
  obtain ⟨bv, bd⟩ := b
  simp only at h1 h2
  rcases kind8 k with h | rfl | rfl | rfl | rfl | rfl | rfl | rfl | rfl | h <;> first | omega | (simp [doesD, applyU, partU, addD, negD, mulD]; try grind)
theorem Own.setD {w : World} {B : Nat} {E : TypeId} {g c : Nat} {l : List DuD} (h : Own w B E (some ⟨g, 0, .none⟩) c l) {i : Nat} {x : DuD} (hx : l[i]? = some x) (y : DuD) :
    Own ((w.setCell ⟨g, i * 2, .none⟩ (.int .u64 (y.v.toNat : Int))).setCell ⟨g, i * 2 + 1, .none⟩ (.int .u64 (y.d.toNat : Int))) B E (some ⟨g, 0, .none⟩) c (l.set i y) := by
  have hi := (List.getElem?_eq_some_iff.1 hx).1
  have h1 := h.setAt i 0 ⟨y.v, x.d⟩ x (.int .u64 (y.v.toNat : Int)) hx (by decide) rfl
  have h2 := h1.setAt i 1 y ⟨y.v, x.d⟩ (.int .u64 (y.d.toNat : Int)) (by rw [List.getElem?_set, if_pos rfl, if_pos hi]) (by decide) rfl
  rw [List.set_set] at h2
  exact h2
theorem At.getDu {w wr : World} {a : Option Addr} {l : List DuD} (h : At w a l) (hb : Below w.heap.size w wr) {k : Nat} (hk : k < l.length) :
    ∃ b off x, a = some ⟨b, off, none⟩ ∧ Hid (l[k]? = some x) ∧ wr.cell? ⟨b, off + k * 2, none⟩ = some (.int .u64 (x.v.toNat : Int)) ∧ wr.cell? ⟨b, off + k * 2 + 1, none⟩ = some (.int .u64 (x.d.toNat : Int)) := by
  obtain ⟨b, off, x, e, hx, hc⟩ := (h.belowN hb).get hk
  exact ⟨b, off, x, e, hx, hc 0 _ rfl, hc 1 _ rfl⟩
end Go.Proofs.YtcamcnahkdiefaaGreat

/- Chapter 14: ref14.Run. -/
namespace Go.Proofs.YtcamcnahkdiefaaGreat
set_option linter.unusedVariables false
set_option linter.unusedSimpArgs false
open Go.RowKit
def startD (n : Nat) (r : List DuD) : List DuD := r ++ List.replicate (n - r.length) ⟨0, 0⟩
theorem startD_length (n : Nat) (r : List DuD) (h : r.length ≤ n) : (startD n r).length = n := by simp [startD] <;> omega
def fillD (n : Nat) (r : List DuD) (k : Nat) : List DuD := r.take k ++ List.replicate (n - k) ⟨0, 0⟩
theorem fillD_set {n : Nat} {r : List DuD} {k : Nat} {x : DuD} (hx : r[k]? = some x) (hn : r.length ≤ n) : (fillD n r k).set k x = fillD n r (k + 1) ∧ (fillD n r k)[k]? = some ⟨0, 0⟩ := by
  have hk := (List.getElem?_eq_some_iff.1 hx).1
  have hl : (r.take k).length = k := by simp; omega
  obtain ⟨m, hm⟩ : ∃ m, n - k = m + 1 := ⟨n - k - 1, by omega⟩
  unfold fillD
  rw [hm, List.replicate_succ]
  constructor
  · rw [List.set_append_right _ _ (by omega), hl, Nat.sub_self, List.set_cons_zero, List.take_add_one, hx, show n - (k + 1) = m by omega]
    simp
  · rw [List.getElem?_append_right (by omega), hl, Nat.sub_self]; rfl
set_option maxRecDepth 100000 in
set_option maxHeartbeats 3200000 in
theorem Run14_good (nr : Nat) (a : Option Addr) (c : Nat) (f : Fo) (g : Good nr f) (ra : Option Addr) (rn rc : Nat) (r : List DuD) (hrn : rn = r.length) (w : World) (h : At w a f.flat) (hr : At w ra r) (h1 : rn ≤ nr) :
    Calls Tryz.prog 57 #[.agg #[.int .i64 (nr : Int), .slice a f.flat.length c], .slice ra rn rc] w fun e w' => ∃ a' c', e = .returned (.tuple #[.slice a' nr c', .int .i64 0]) ∧ Own w' w.heap.size 111 a' c' (runD f.unroll (startD nr r)) ∧ Below w.heap.size w w' := by
  have hb0 := below_new12 w (.cells #[.int .i64 (nr : Int), .slice a f.flat.length c] 24)
  have hX := Blk.new w 24 #[.int .i64 (nr : Int), .slice a f.flat.length c]
  have hl : f.flat.length ≤ 4096 := g.len
  have g1 := h.belowN hb0
  have r2 : nr ≤ 64 := by have := g.r2; omega
  have r1 : 1 ≤ nr := by have := g.r1; omega
  have HP := hide (Unroll12R nr a c f.flat _ f.unroll 0 (unrS_good g) g.check g1 (by omega))
  have hul : f.unroll.length ≤ 65536 := by rw [Fo.unroll_length]; exact g.few
  have HIN := hide (fun x hx => And.intro (g.inF x (f.unroll_mem g.ok x hx).1 (f.unroll_mem g.ok x hx).2.1 (f.unroll_mem g.ok x hx).2.2) (f.unroll_mem g.ok x hx).2)
  have HRN := hide hrn
  generalize f.unroll = U at *
  clear g hrn
  have hrn2 : (rn : Int) ≤ nr := by omega
  go_enter Tryz.func57, Tryz.ntmps57
  go_wp2_with (first
    | (go_at_call 43; go_must ((with_reducible refine (HP.out).mono ?_); rintro e w1 ⟨a1, c1, rfl, hown1, hC1⟩; have hz1 := hC1.size; obtain ⟨q0, q1, q2, q3⟩ := (hX.belowN hC1).c2))
    | (refine wpList_mkN tyND (B := w.heap.size + 1) rfl rfl rfl rfl rfl rfl (by simp at hz1 ⊢ <;> omega) (by omega) ?_; intro w2 hown2 hg2))
  have hB1 : w.heap.size + 1 ≤ w1.heap.size := by simp at hz1; omega
  have hC2 : Below _ _ w2 := hC1.grown hg2 hz1 (fun k hk => by cases hk)
  have hU2 := hown1.grown hg2 (by cases a1 with | none => exact .inl rfl | some q => exact .inr (by simp))
  have hr1 := hr.belowN hb0
  have hgz : w1.heap.size < w2.heap.size := (hown2.blk _ rfl).2
  have dU : ∀ q, a1.map (·.block) = some q → q < w1.heap.size := fun q e => (hown1.blk q e).2
  generalize w1.heap.size = gd at *
  have hz2 := hC2.size
  clear hg2 hown1 hC1 q0 q1 q2 q3
  have hst : fillD nr r 0 = List.replicate nr ⟨0, 0⟩ := by simp [fillD]
  rw [← hst] at hown2
  clear hst
  have HDU := hide dU
  clear dU
  go_loopw [9] (fun iv wr => ∃ k : Nat, iv = .int .i64 k ∧ k ≤ rn ∧ Own wr (w.heap.size + 1) 111 (some ⟨gd, 0, none⟩) nr (fillD nr r k) ∧ Turned [gd] w2 wr) (fun iv _ => rn - (intOf iv).toNat)
  case atStart => exact ⟨0, rfl, by omega, hown2, Turned.refl _ _⟩
  case round =>
    obtain ⟨k, rfl, hk, hown, hTu⟩ := hrel
    have hbW := below_turned hC2 hTu (fun b hb => by simp at hb; subst hb; simp; omega) hz2
    have hzW := hTu.size
    by_cases hlt : k < rn
    · obtain ⟨b1, off1, x, rfl, hx, c0, c1'⟩ := hr1.getDu hbW (show k < r.length by have := HRN.out; omega)
      obtain ⟨e1, e2⟩ := fillD_set (n := nr) hx.out (by rw [← HRN.out]; omega)
      have hs := hown.setD e2 x
      rw [e1] at hs
      have d0 := hown.cellAt e2 (f := 0) rfl
      have d1 := hown.cellAt e2 (f := 1) rfl
      have d2 := hown.frozen (k * 2)
      have d3 := hown.frozen (k * 2 + 1)
      simp only [Flat.n, Nat.add_zero] at d0 d1
      have hT2 : Turned [gd] wr ((wr.setCell ⟨gd, k * 2, none⟩ (.int .u64 (x.v.toNat : Int))).setCell ⟨gd, k * 2 + 1, none⟩ (.int .u64 (x.d.toNat : Int))) := (Turned.ofGrown (F := [gd]) (grown_setCell _ _ _ _) (fun q hq => .inl (by injection hq with hq; simp [hq]))).trans (Turned.ofGrown (F := [gd]) (grown_setCell _ _ _ _) (fun q hq => .inl (by injection hq with hq; simp [hq]))) (fun q hq => .inl hq)
      clear e1 e2
      go_wp2
      go_roundw
      case rel => exact ⟨k + 1, by go_num, by omega, hs, hTu.trans hT2 (fun q hq => .inl hq)⟩
      case measure => simp [intOf] <;> omega
    · have hkn : k = rn := by omega
      subst hkn
      rw [show fillD nr r k = startD nr r by unfold fillD startD; rw [HRN.out, List.take_length]] at hown
      have hRl0 : (startD nr r).length = nr := startD_length nr r (by rw [← HRN.out]; exact h1)
      obtain ⟨R0, hR0⟩ : ∃ R0, startD nr r = R0 := ⟨_, rfl⟩
      rw [hR0] at hown hRl0
      have HR0 := hide hR0
      clear hR0
      obtain ⟨wo, rfl⟩ : ∃ wo : World, wo = wr := ⟨_, rfl⟩
      have hU3 := hU2.turned hTu (fun q e hq => by simp at hq; have := HDU.out q e; omega)
      have HRL := hide hRl0
      clear hRl0 hlt hk hU2
      go_wp2_with fail
      go_loopw [10] (fun iv wr => ∃ j : Nat, iv = .int .i64 j ∧ j ≤ U.length ∧ Own wr (w.heap.size + 1) 111 (some ⟨gd, 0, none⟩) nr (runD (U.take j) R0) ∧ Turned [gd] wo wr) (fun iv _ => U.length - (intOf iv).toNat)
      case atStart => exact ⟨0, rfl, by omega, hown, Turned.refl _ _⟩
      case round =>
        obtain ⟨j, rfl, hj, hR, hTv⟩ := hrel
        have hzV := hTv.size
        by_cases hlt : j < U.length
        · have hU4 := hU3.turned hTv (fun q e hq => by simp at hq; have := HDU.out q e; omega)
          obtain ⟨b1', off1, x, rfl, hx, x0, x1, x2, x3, x4⟩ := hU4.at_.getOp (Below.refl _ _) hlt
          obtain ⟨⟨⟨d1, d2⟩, ⟨p1, p2⟩, ⟨i1, i2⟩⟩, k1, k2⟩ := HIN.out x (List.mem_of_getElem? hx.out)
          have HSN := hide (runD_snoc U R0 hx.out)
          have hRl : (runD (U.take j) R0).length = nr := by rw [runD_length, HRL.out]
          generalize runD (U.take j) R0 = R at *
          obtain ⟨pd, hpd⟩ : ∃ y, R[x.d.toNat]? = some y := ⟨R[x.d.toNat]'(by omega), List.getElem?_eq_getElem _⟩
          obtain ⟨pa, hpa⟩ : ∃ y, R[x.a.toNat]? = some y := ⟨R[x.a.toNat]'(by omega), List.getElem?_eq_getElem _⟩
          obtain ⟨pb, hpb⟩ : ∃ y, R[x.b.toNat]? = some y := ⟨R[x.b.toNat]'(by omega), List.getElem?_eq_getElem _⟩
          have HDO := hide (fun W => Does14_calls x pa pb W (by omega))
          obtain ⟨S, hS⟩ : ∃ S, doesD x pa pb = S := ⟨_, rfl⟩
          rw [hS] at HDO
          have HS2 := hide (show stepD R x = R.set x.d.toNat S by unfold stepD getD14; rw [hpa, hpb]; simp only [Option.getD_some]; rw [hS])
          have ca0 := hR.cellAt hpa (f := 0) rfl
          have ca1 := hR.cellAt hpa (f := 1) rfl
          have cb0 := hR.cellAt hpb (f := 0) rfl
          have cb1 := hR.cellAt hpb (f := 1) rfl
          have cd0 := hR.cellAt hpd (f := 0) rfl
          have cd1 := hR.cellAt hpd (f := 1) rfl
          have fd0 := hR.frozen (x.d.toNat * 2)
          have fd1 := hR.frozen (x.d.toNat * 2 + 1)
          simp only [Flat.n, Nat.add_zero] at ca0 ca1 cb0 cb1 cd0 cd1
          simp only [DuD.val] at HDO
          have HPD := hide hpd
          have hd0 : Below wr.heap.size wr wr.drew := Below.drew (Below.refl _ _)
          clear hS hpa hpb hpd
          go_wp2_with fail
          have hbx : b1' < wr.heap.size := (hU4.blk b1' rfl).2
          have hgx : gd < wr.heap.size := by omega
          obtain ⟨S', hS'⟩ : ∃ S' : World → Prop, S' = fun w' => (w'.cell? ⟨b1', off1 + j * 5, none⟩ = some (.int .i64 x.kind) ∧ w'.cell? ⟨b1', off1 + j * 5 + 1, none⟩ = some (.int .i64 x.d) ∧ w'.cell? ⟨b1', off1 + j * 5 + 2, none⟩ = some (.int .i64 x.a) ∧ w'.cell? ⟨b1', off1 + j * 5 + 3, none⟩ = some (.int .i64 x.b) ∧ w'.cell? ⟨b1', off1 + j * 5 + 4, none⟩ = some (.int .u64 (x.v.toNat : Int))) ∧ w'.cell? ⟨gd, x.a.toNat * 2, none⟩ = some (.int .u64 (pa.v.toNat : Int)) ∧ w'.cell? ⟨gd, x.a.toNat * 2 + 1, none⟩ = some (.int .u64 (pa.d.toNat : Int)) ∧ w'.cell? ⟨gd, x.b.toNat * 2, none⟩ = some (.int .u64 (pb.v.toNat : Int)) ∧ w'.cell? ⟨gd, x.b.toNat * 2 + 1, none⟩ = some (.int .u64 (pb.d.toNat : Int)) := ⟨_, rfl⟩
          have HSE : Hid (∀ w', S' w' → (w'.cell? ⟨b1', off1 + j * 5, none⟩ = some (.int .i64 x.kind) ∧ w'.cell? ⟨b1', off1 + j * 5 + 1, none⟩ = some (.int .i64 x.d) ∧ w'.cell? ⟨b1', off1 + j * 5 + 2, none⟩ = some (.int .i64 x.a) ∧ w'.cell? ⟨b1', off1 + j * 5 + 3, none⟩ = some (.int .i64 x.b) ∧ w'.cell? ⟨b1', off1 + j * 5 + 4, none⟩ = some (.int .u64 (x.v.toNat : Int))) ∧ w'.cell? ⟨gd, x.a.toNat * 2, none⟩ = some (.int .u64 (pa.v.toNat : Int)) ∧ w'.cell? ⟨gd, x.a.toNat * 2 + 1, none⟩ = some (.int .u64 (pa.d.toNat : Int)) ∧ w'.cell? ⟨gd, x.b.toNat * 2, none⟩ = some (.int .u64 (pb.v.toNat : Int)) ∧ w'.cell? ⟨gd, x.b.toNat * 2 + 1, none⟩ = some (.int .u64 (pb.d.toNat : Int))) := hide fun w' h => by rw [hS'] at h; exact h
          have HSI : Hid (S' wr.drew) := by show S' wr.drew; rw [hS']; exact ⟨⟨x0, x1, x2, x3, x4⟩, ca0, ca1, cb0, cb1⟩
          have HSI4 : Hid (∀ w4, Below wr.heap.size wr w4 → S' w4) := by
            show ∀ w4, _ → _
            intro w4 hb4
            obtain ⟨y0, _⟩ := bcell hb4
            rw [hS']
            exact ⟨⟨(y0 _ _ hbx).trans x0, (y0 _ _ hbx).trans x1, (y0 _ _ hbx).trans x2, (y0 _ _ hbx).trans x3, (y0 _ _ hbx).trans x4⟩, (y0 _ _ hgx).trans ca0, (y0 _ _ hgx).trans ca1, (y0 _ _ hgx).trans cb0, (y0 _ _ hgx).trans cb1⟩
          clear hS'
          refine wp_region_calls 26 27 S' (by kernel_rfl) (by kernel_rfl) HSI.out ?_
          simp only [List.take_succ_cons, List.take_zero, List.drop_succ_cons, List.drop_zero, Nat.reduceSub]
          iterate 26
            apply headK_step (by rfl)
            · intro w' hw'
              obtain ⟨⟨s0, s1, s2, s3, s4⟩, s5, s6, s7, s8⟩ := HSE.out w' hw'
              go_simp
              rfl
            intro a' ha'
            simp only [Act.put, List.setIfInBounds_toArray, List.set_cons_succ, List.set_cons_zero] at ha'
            subst ha'
          refine headK_nil ?_
          rw [midK]
          intro K0 hK0
          have HK0 := hide hK0
          clear hK0
          go_simp
          go_at_call 109
          refine (HDO.out _).mono ?_
          rintro e w4 ⟨rfl, hb4⟩
          have hB4 := hd0.trans (hb4.mono hd0.size)
          refine HK0.out _ _ (HSI4.out w4 hB4) ?_
          clear HK0
          rw [midK]
          obtain ⟨y0, y1⟩ := bcell hB4
          have t0 := (y0 gd _ hgx).trans cd0
          have t1 := (y0 gd _ hgx).trans cd1
          have t2 := (y1 gd (x.d.toNat * 2) hgx).trans fd0
          have t3 := (y1 gd (x.d.toNat * 2 + 1) hgx).trans fd1
          have hR4 := (hR.belowN hB4).setD HPD.out S
          rw [← HS2.out, ← HSN.out] at hR4
          have hT4 : Turned [gd] wr ((w4.setCell ⟨gd, x.d.toNat * 2, none⟩ (.int .u64 (S.v.toNat : Int))).setCell ⟨gd, x.d.toNat * 2 + 1, none⟩ (.int .u64 (S.d.toNat : Int))) := ((Turned.ofBelow (F := [gd]) hB4).trans (Turned.ofGrown (F := [gd]) (grown_setCell _ _ _ _) (fun q hq => .inl (by injection hq with hq; simp [hq]))) (fun q hq => .inl hq)).trans (Turned.ofGrown (F := [gd]) (grown_setCell _ _ _ _) (fun q hq => .inl (by injection hq with hq; simp [hq]))) (fun q hq => .inl hq)
          clear y0 y1 HSI HSI4 HSE
          go_wp2
          refine NoPanic.normal ?_
          go_wp2
          go_roundw
          case rel => exact ⟨j + 1, by go_num, by omega, hR4, hTv.trans hT4 (fun q hq => .inl hq)⟩
          case measure => simp [intOf] <;> omega
        · have hjn : j = U.length := by omega
          subst hjn
          rw [List.take_length] at hR
          go_wp2
          go_ret2
          refine ⟨some ⟨gd, 0, none⟩, nr, rfl, by rw [HR0.out]; exact hR.mono (show w.heap.size ≤ w.heap.size + 1 by omega), hb0.trans ((below_turned (below_turned hC2 hTu (fun b hb => by simp at hb; subst hb; simp; omega) hz2) hTv (fun b hb => by simp at hb; subst hb; simp; omega) (by omega)).mono (by simp))⟩
/-- may duals be handed in? -/
def dualE (regs : Int) (l : List OpD) (rn : Nat) : Int := if checkS regs l ≠ 0 then checkS regs l else if regs < (rn : Int) then 10 else 0
noncomputable def dualR (regs : Int) (l : List OpD) (r : List DuD) : List DuD := if dualE regs l r.length = 0 then runD (unrS regs l) (startD regs.toNat r) else []
theorem dualE_good {regs : Int} {l : List OpD} {rn : Nat} (h : dualE regs l rn = 0) : ∃ f : Fo, l = f.flat ∧ Good regs f ∧ (rn : Int) ≤ regs := by
  unfold dualE at h
  by_cases hc : checkS regs l = 0
  · rw [if_neg (by simpa using hc)] at h
    obtain ⟨f, rfl, g⟩ := good_of_check hc
    by_cases hn : regs < (rn : Int)
    · rw [if_pos hn] at h; cases h
    · exact ⟨f, rfl, g, by omega⟩
  · rw [if_pos hc] at h; exact absurd h hc
theorem dualE_of {regs : Int} {f : Fo} (g : Good regs f) {rn : Nat} (hn : (rn : Int) ≤ regs) : dualE regs f.flat rn = 0 := by
  unfold dualE
  rw [if_neg (by simpa using g.check), if_neg (by omega)]
theorem dualE_dims {regs : Int} {f : Fo} (g : Good regs f) {rn : Nat} (h : regs < (rn : Int)) : dualE regs f.flat rn = 10 := by
  unfold dualE
  rw [if_neg (by simpa using g.check), if_pos h]
theorem dualE_bad {regs : Int} {l : List OpD} {rn : Nat} (hc : checkS regs l ≠ 0) : dualE regs l rn = checkS regs l := by unfold dualE; rw [if_pos hc]
theorem dualR_good {regs : Int} {f : Fo} (g : Good regs f) {r : List DuD} (hn : (r.length : Int) ≤ regs) : dualR regs f.flat r = runD f.unroll (startD regs.toNat r) := by
  unfold dualR
  rw [if_pos (dualE_of g hn), unrS_good g]
theorem dualR_bad {regs : Int} {l : List OpD} {r : List DuD} (h : dualE regs l r.length ≠ 0) : dualR regs l r = [] := by unfold dualR; rw [if_neg h]
set_option maxRecDepth 100000 in
set_option maxHeartbeats 800000 in
theorem Run14_dims (nr : Nat) (a : Option Addr) (c : Nat) (f : Fo) (g : Good nr f) (ra : Option Addr) (rn rc : Nat) (w : World) (h : At w a f.flat) (hm : (nr : Int) < (rn : Int)) :
    Calls Tryz.prog 57 #[.agg #[.int .i64 (nr : Int), .slice a f.flat.length c], .slice ra rn rc] w fun e w' => e = .returned (.tuple #[.slice none 0 0, .int .i64 10]) ∧ Below w.heap.size w w' := by
  have hb0 := below_new12 w (.cells #[.int .i64 (nr : Int), .slice a f.flat.length c] 24)
  have hX := Blk.new w 24 #[.int .i64 (nr : Int), .slice a f.flat.length c]
  have hl : f.flat.length ≤ 4096 := g.len
  have g1 := h.belowN hb0
  have r2 : nr ≤ 64 := by have := g.r2; omega
  have HP := hide (Unroll12R nr a c f.flat _ f.unroll 0 (unrS_good g) g.check g1 (by omega))
  have hul : f.unroll.length ≤ 65536 := by rw [Fo.unroll_length]; exact g.few
  generalize f.unroll = U at *
  clear g
  go_enter Tryz.func57, Tryz.ntmps57
  go_wp2_with (go_at_call 43; go_must ((with_reducible refine (HP.out).mono ?_); rintro e w2 ⟨a2, c2, rfl, hown2, hC2⟩; obtain ⟨q0, q1, q2, q3⟩ := (hX.belowN hC2).c2))
  all_goals
    go_ret2
    exact ⟨rfl, hb0.trans (hC2.mono hb0.size)⟩
set_option maxRecDepth 100000 in
set_option maxHeartbeats 800000 in
theorem Run14_bad (regs : Int) (a : Option Addr) (c : Nat) (l : List OpD) (ra : Option Addr) (rn rc : Nat) (w : World) (h : At w a l) (hl : l.length ≤ 1000000) (hc : checkS regs l ≠ 0) :
    Calls Tryz.prog 57 #[.agg #[.int .i64 regs, .slice a l.length c], .slice ra rn rc] w fun e w' => e = .returned (.tuple #[.slice none 0 0, .int .i64 (checkS regs l)]) ∧ Below w.heap.size w w' := by
  have hb0 := below_new12 w (.cells #[.int .i64 regs, .slice a l.length c] 24)
  have hX := Blk.new w 24 #[.int .i64 regs, .slice a l.length c]
  have g1 := h.belowN hb0
  obtain ⟨E, hE⟩ : ∃ E, checkS regs l = E := ⟨_, rfl⟩
  have HP := hide (Unroll12R regs a c l _ _ E rfl hE g1 hl)
  rw [hE] at hc ⊢
  have e1 : (E == 0) = false := by simpa using hc
  have e2 : (E != 0) = true := by simpa using hc
  clear hE hc
  go_enter Tryz.func57, Tryz.ntmps57
  go_wp2_with (go_at_call 43; go_must ((with_reducible refine (HP.out).mono ?_); rintro e w2 ⟨a2, c2, rfl, hown2, hC2⟩; obtain ⟨q0, q1, q2, q3⟩ := (hX.belowN hC2).c2))
  go_ret2
  exact ⟨rfl, hb0.trans (hC2.mono hb0.size)⟩
theorem Run14_calls (regs : Int) (a : Option Addr) (c ln : Nat) (l : List OpD) (hln : ln = l.length) (ra : Option Addr) (rn rc : Nat) (r : List DuD) (hrn : rn = r.length) (A : List DuD) (E : Int) (hA : dualR regs l r = A) (hE : dualE regs l rn = E) (w : World) (h : At w a l) (hl : ln ≤ 1000000) (hr : At w ra r) :
    Calls Tryz.prog 57 #[.agg #[.int .i64 regs, .slice a ln c], .slice ra rn rc] w fun e w' => ∃ a' c', e = .returned (.tuple #[.slice a' A.length c', .int .i64 E]) ∧ Own w' w.heap.size 111 a' c' A ∧ Below w.heap.size w w' := by
  subst hln hA hE
  by_cases hc : dualE regs l rn = 0
  · rw [hc]
    obtain ⟨f, rfl, g, hn⟩ := dualE_good hc
    obtain ⟨nr, rfl⟩ : ∃ nr : Nat, regs = nr := ⟨regs.toNat, by have := g.r1; omega⟩
    rw [dualR_good g (by omega)]
    refine (Run14_good nr a c f g ra rn rc r hrn w h hr (by omega)).mono ?_
    rintro e w' ⟨a', c', rfl, o, hb⟩
    refine ⟨a', c', ?_, o, hb⟩
    rw [Int.toNat_natCast, runD_length, startD_length _ _ (by omega)]
  · rw [dualR_bad (by rw [← hrn]; exact hc)]
    have key : Calls Tryz.prog 57 #[.agg #[.int .i64 regs, .slice a l.length c], .slice ra rn rc] w fun e w' => e = .returned (.tuple #[.slice none 0 0, .int .i64 (dualE regs l rn)]) ∧ Below w.heap.size w w' := by
      by_cases h0 : checkS regs l = 0
      · obtain ⟨f, rfl, g⟩ := good_of_check h0
        obtain ⟨nr, rfl⟩ : ∃ nr : Nat, regs = nr := ⟨regs.toNat, by have := g.r1; omega⟩
        have hd : (nr : Int) < (rn : Int) := Classical.byContradiction fun hd => hc (dualE_of g (by omega))
        rw [dualE_dims g hd]
        exact Run14_dims nr a c f g ra rn rc w h hd
      · rw [dualE_bad h0]
        exact Run14_bad regs a c l ra rn rc w h hl h0
    refine key.mono ?_
    rintro e w' ⟨rfl, hb⟩
    exact ⟨none, 0, rfl, Own.none _ _ _, hb⟩
end Go.Proofs.YtcamcnahkdiefaaGreat

/- Chapter 14: ref14.Along. -/
namespace Go.Proofs.YtcamcnahkdiefaaGreat
set_option linter.unusedVariables false
set_option linter.unusedSimpArgs false
open Go.RowKit
end Go.Proofs.YtcamcnahkdiefaaGreat

/- Chapter 7: partials, the program's and the document's. -/
namespace Go.Proofs.YtcamcnahkdiefaaGreat
set_option linter.unusedVariables false
set_option linter.unusedSimpArgs false
open Go.RowKit
theorem part_no {x : OpD} (a b : UInt64) (h : x.kind < 0 ∨ 7 < x.kind) : partU x a b = (0, 0) := by
  unfold partU
  rw [if_neg (by omega), if_neg (by omega), if_neg (by omega), if_neg (by omega), if_neg (by omega)]
theorem ret_uu {a b c d : Int} (h : a = b) (k : c = d) : Ending.returned (.tuple #[.int .u64 a, .int .u64 c]) = .returned (.tuple #[.int .u64 b, .int .u64 d]) := by rw [h, k]
theorem Partials_calls (x : OpD) (a b : UInt64) (w : World) : Calls Tryz.prog 153 #[.agg #[.int .i64 x.kind, .int .i64 x.d, .int .i64 x.a, .int .i64 x.b, .int .u64 (x.v.toNat : Int)], .int .u64 (a.toNat : Int), .int .u64 (b.toNat : Int)] w fun e w' => e = .returned (.tuple #[.int .u64 ((partU x a b).1.toNat : Int), .int .u64 ((partU x a b).2.toNat : Int)]) ∧ Below w.heap.size w w' := by
  obtain ⟨k, rd, ra, rb, v⟩ := x
  simp only
  rcases kind8 k with h | rfl | rfl | rfl | rfl | rfl | rfl | rfl | rfl | h
  case inl =>
    obtain ⟨h0, h1, h2, h3, h4, h5, h6, h7⟩ := kind_no (.inl h)
    go_enter Tryz.func153, Tryz.ntmps153
    go_wp2
    go_ret2
    exact ⟨ret_uu (by rw [part_no a b (.inl h)]; rfl) (by rw [part_no a b (.inl h)]; rfl), (by with_reducible repeat first | exact Below.refl _ _ | assumption | refine below_drewN ?_ _ | refine Below.drew ?_ | refine Below.alloc ?_ (by simp <;> omega) _ | refine Below.setCell ?_ (by simp <;> omega) _)⟩
  case inr.inr.inr.inr.inr.inr.inr.inr.inr =>
    obtain ⟨h0, h1, h2, h3, h4, h5, h6, h7⟩ := kind_no (.inr h)
    go_enter Tryz.func153, Tryz.ntmps153
    go_wp2
    go_ret2
    exact ⟨ret_uu (by rw [part_no a b (.inr h)]; rfl) (by rw [part_no a b (.inr h)]; rfl), (by with_reducible repeat first | exact Below.refl _ _ | assumption | refine below_drewN ?_ _ | refine Below.drew ?_ | refine Below.alloc ?_ (by simp <;> omega) _ | refine Below.setCell ?_ (by simp <;> omega) _)⟩
  all_goals
    go_enter Tryz.func153, Tryz.ntmps153
    go_wp2
    go_ret2
    exact ⟨ret_uu rfl rfl, (by with_reducible repeat first | exact Below.refl _ _ | assumption | refine below_drewN ?_ _ | refine Below.drew ?_ | refine Below.alloc ?_ (by simp <;> omega) _ | refine Below.setCell ?_ (by simp <;> omega) _)⟩
end Go.Proofs.YtcamcnahkdiefaaGreat

/- Chapter 21: TapeBack. -/
namespace Go.Proofs.YtcamcnahkdiefaaGreat
set_option linter.unusedVariables false
set_option linter.unusedSimpArgs false
open Go.RowKit
/-- so many noughts -/
def zerosU (n : Nat) : Array Value := (List.replicate n (Value.int .u64 0)).toArray
theorem zeros_made (n : Nat) : madeCells #[Value.int .u64 0] n = zerosU n := by
  apply Array.ext
  · simp [madeCells, zerosU]
  · intro i h1 h2
    simp [madeCells, zerosU, Nat.mod_one]
theorem mkU (n : Nat) (N : Int) (hN : N = (n : Int)) (hn : n ≤ 1000000000) (W : World) : (Instr.makeSlice 46 (.int .i64 N) (.int .i64 N)).run Tryz.prog W = .ok (.slice (some ⟨W.heap.size, 0, none⟩) n n) (W.alloc (.cells (zerosU n) 50)) := by
  subst hN
  rw [← zeros_made]
  exact run_make_row' 46 50 (.int .u64 0) 8 Tryz.underlying46 (by kernel_rfl) rfl .i64 .i64 n (by omega) (by omega) W
theorem ownZ {B : Nat} (W : World) (hB : B ≤ W.heap.size) (n : Nat) (hn : n ≤ 1000000000) : Own (W.alloc (.cells (zerosU n) 50)) B 50 (some ⟨W.heap.size, 0, none⟩) n (List.replicate n (0 : UInt64)) :=
  Own.made W hB 50 (zerosU n) _ (by rw [enc_map, List.map_replicate]; rfl) (by rw [List.length_replicate]; unfold maxLen; omega) n (by rw [List.length_replicate])
end Go.Proofs.YtcamcnahkdiefaaGreat
