/- Chapter 22: a write taken back. -/
import Derived.StillTailTactics
import Derived.Test.YtmmepffdjmpblaaGreatP7
import Derived.Test.YtmmepffdjmpblaaGreatT21a
namespace Go.Proofs.YtmmepffdjmpblaaGreat
set_option linter.unusedVariables false
set_option linter.unusedSimpArgs false
open Go.RowKit
theorem u64_mac (u p g : UInt64) : ((u.toNat : Int) + (p.toNat : Int) * (g.toNat : Int)) % 18446744073709551616 = ((u + p * g).toNat : Int) := by
  rw [UInt64.toNat_add, UInt64.toNat_mul, ← Int.natCast_mul]
  generalize p.toNat * g.toNat = m
  omega
set_option maxRecDepth 100000 in
set_option maxHeartbeats 3200000 in
theorem take_calls (regs : Int) (x : OpD) (hx : InR regs x) (gr ga nr cr na ca : Nat) (ta : Option Addr) (nt ct Br Ba : Nat) (R A T : List UInt64) (n : Nat) (v : UInt64) (hT : T[n]? = some v) (hnt : nt = T.length) (hnr : nr = R.length) (hna : na = A.length)
    (hR : (R.length : Int) = regs) (hA : (A.length : Int) = regs) (hn64 : regs ≤ 64) (hnt2 : nt ≤ 1000000) (w : World) (h1 : Own w Br 50 (some ⟨gr, 0, none⟩) cr R) (h2 : Own w Ba 50 (some ⟨ga, 0, none⟩) ca A) (h3 : At w ta T) (hne : gr ≠ ga) (hta : ∀ q, ta.map (·.block) = some q → q ≠ gr ∧ q ≠ ga) :
    Calls Tryz.prog 86 #[.agg #[.slice (some ⟨gr, 0, none⟩) nr cr, .slice (some ⟨ga, 0, none⟩) na ca, .slice ta nt ct], .agg #[.int .i64 x.kind, .int .i64 x.d, .int .i64 x.a, .int .i64 x.b, .int .u64 (x.v.toNat : Int)], .int .i64 (n : Int)] w fun e w' => e = .returned (.tuple #[]) ∧ Own w' Br 50 (some ⟨gr, 0, none⟩) cr (R.set x.d.toNat v) ∧ Own w' Ba 50 (some ⟨ga, 0, none⟩) ca (takeA x (R.set x.d.toNat v) A) ∧ Turned [gr, ga] w w' := by
  obtain ⟨⟨d1, d2⟩, ⟨a1, a2⟩, ⟨i1, i2⟩⟩ := hx
  have hnl : n < T.length := (List.getElem?_eq_some_iff.1 hT).1
  have hnn : n < nt := by omega
  have d3 : x.d < (nr : Int) := by omega
  have a3 : x.a < (nr : Int) := by omega
  have i3 : x.b < (nr : Int) := by omega
  have d4 : x.d < (na : Int) := by omega
  have a4 : x.a < (na : Int) := by omega
  have i4 : x.b < (na : Int) := by omega
  have hgr := (h1.blk gr rfl).2
  have hga := (h2.blk ga rfl).2
  have hnr64 : nr ≤ 64 := by omega
  have hna64 : na ≤ 64 := by omega
  obtain ⟨bt, ot, hta', hct⟩ := h3 n v hT
  replace hct := hct 0 _ rfl
  simp only [Flat.n, Nat.mul_one, Nat.add_zero] at hct
  subst hta'
  have hbt := World.block_lt_of_cell? _ _ hct
  obtain ⟨q1, q2⟩ := hta bt rfl
  -- the numbers
  obtain ⟨R', hR'⟩ : ∃ R', R.set x.d.toNat v = R' := ⟨_, rfl⟩
  obtain ⟨g, hg⟩ : ∃ g, getR A x.d = g := ⟨_, rfl⟩
  obtain ⟨A1, hA1⟩ : ∃ A1, A.set x.d.toNat 0 = A1 := ⟨_, rfl⟩
  obtain ⟨p, hp⟩ : ∃ p, (partU x (getR R' x.a) (getR R' x.b)).1 = p := ⟨_, rfl⟩
  obtain ⟨q, hq⟩ : ∃ q, (partU x (getR R' x.a) (getR R' x.b)).2 = q := ⟨_, rfl⟩
  obtain ⟨u1, hu1⟩ : ∃ u1, getR A1 x.a = u1 := ⟨_, rfl⟩
  obtain ⟨A2, hA2⟩ : ∃ A2, A1.set x.a.toNat (u1 + p * g) = A2 := ⟨_, rfl⟩
  obtain ⟨u2, hu2⟩ : ∃ u2, getR A2 x.b = u2 := ⟨_, rfl⟩
  obtain ⟨A3, hA3⟩ : ∃ A3, A2.set x.b.toNat (u2 + q * g) = A3 := ⟨_, rfl⟩
  have hTK : takeA x R' A = A3 := by unfold takeA addR; rw [hA1, hg, hp, hq, hu1, hA2, hu2, hA3]
  obtain ⟨va, hva⟩ : ∃ va, getR R' x.a = va := ⟨_, rfl⟩
  obtain ⟨vb, hvb⟩ : ∃ vb, getR R' x.b = vb := ⟨_, rfl⟩
  have hl1 : A1.length = A.length := by rw [← hA1, List.length_set]
  have hl2 : A2.length = A.length := by rw [← hA2, List.length_set, hl1]
  have hlR : R'.length = R.length := by rw [← hR', List.length_set]
  have getC : ∀ (L : List UInt64) (i : Int) (u : UInt64), getR L i = u → i.toNat < L.length → L[i.toNat]? = some u := fun L i u h hl => by
    unfold getR at h; rw [List.getElem?_eq_getElem hl] at h ⊢; rw [← h]; rfl
  have kA := getC A x.d g hg (by omega)
  have kA1 := getC A1 x.a u1 hu1 (by omega)
  have kA2 := getC A2 x.b u2 hu2 (by omega)
  have kRa := getC R' x.a va hva (by omega)
  have kRb := getC R' x.b vb hvb (by omega)
  rw [hR', hTK]
  have HP := hide (fun w => Partials_calls x va vb w)
  rw [hva, hvb] at hp hq
  rw [hp, hq] at HP
  have e1 : IntKind.u64.wrap ((u1.toNat : Int) + IntKind.u64.wrap ((p.toNat : Int) * (g.toNat : Int))) = ((u1 + p * g).toNat : Int) := by rw [u64_mul, u64_add]
  have e2 : IntKind.u64.wrap ((u2.toNat : Int) + IntKind.u64.wrap ((q.toNat : Int) * (g.toNat : Int))) = ((u2 + q * g).toNat : Int) := by rw [u64_mul, u64_add]
  have HR' := hide hR'
  have HNR := hide hnr
  have HA1 := hide hA1
  have HA2 := hide hA2
  have HA3 := hide hA3
  have KA := hide kA
  have KA1 := hide kA1
  have KA2 := hide kA2
  have KRa := hide kRa
  have KRb := hide kRb
  have hszs : (w.setCell ⟨ga, x.d.toNat, none⟩ (.int .u64 0)).heap.size = w.heap.size := by simp [World.setCell]
  have hTu : Turned [ga] w (((w.setCell ⟨ga, x.d.toNat, none⟩ (.int .u64 0)).alloc (.cells #[.slice (some ⟨gr, 0, none⟩) nr cr, .slice (some ⟨ga, 0, none⟩) na ca, .slice (some ⟨bt, ot, none⟩) nt ct] 121)).alloc (.cells #[.int .i64 x.kind, .int .i64 x.d, .int .i64 x.a, .int .i64 x.b, .int .u64 (x.v.toNat : Int)] 71)) :=
    (Turned.ofGrown (F := [ga]) (grown_setCell _ _ _ _) (fun q hq => .inl (by injection hq with hq; simp [hq]))).trans (Turned.ofBelow (F := []) (below2 _ _ _)) (fun q hq => by cases hq)
  have hBs := (Blk.new (w.setCell ⟨ga, x.d.toNat, none⟩ (.int .u64 0)) 121 #[.slice (some ⟨gr, 0, none⟩) nr cr, .slice (some ⟨ga, 0, none⟩) na ca, .slice (some ⟨bt, ot, none⟩) nt ct]).alloc (.cells #[.int .i64 x.kind, .int .i64 x.d, .int .i64 x.a, .int .i64 x.b, .int .u64 (x.v.toNat : Int)] 71)
  have hBo := Blk.new ((w.setCell ⟨ga, x.d.toNat, none⟩ (.int .u64 0)).alloc (.cells #[.slice (some ⟨gr, 0, none⟩) nr cr, .slice (some ⟨ga, 0, none⟩) na ca, .slice (some ⟨bt, ot, none⟩) nt ct] 121)) 71 #[.int .i64 x.kind, .int .i64 x.d, .int .i64 x.a, .int .i64 x.b, .int .u64 (x.v.toNat : Int)]
  simp only [World.size_alloc, hszs] at hBo hBs
  have hown1 := h1.turned hTu (fun q hq => by simp at hq; simp; omega)
  have hown2 := ((h2.set1 x.d.toNat 0 (.int .u64 0) rfl).alloc (.cells #[.slice (some ⟨gr, 0, none⟩) nr cr, .slice (some ⟨ga, 0, none⟩) na ca, .slice (some ⟨bt, ot, none⟩) nt ct] 121)).alloc (.cells #[.int .i64 x.kind, .int .i64 x.d, .int .i64 x.a, .int .i64 x.b, .int .u64 (x.v.toNat : Int)] 71)
  rw [hA1] at hown2
  have c0 : w.cell? ⟨ga, x.d.toNat, none⟩ = some (.int .u64 (g.toNat : Int)) := by simpa [Flat.n] using h2.cellAt kA (f := 0) rfl
  have c1 := h2.frozen x.d.toNat
  have hct2 : (((w.setCell ⟨ga, x.d.toNat, none⟩ (.int .u64 0)).alloc (.cells #[.slice (some ⟨gr, 0, none⟩) nr cr, .slice (some ⟨ga, 0, none⟩) na ca, .slice (some ⟨bt, ot, none⟩) nt ct] 121)).alloc (.cells #[.int .i64 x.kind, .int .i64 x.d, .int .i64 x.a, .int .i64 x.b, .int .u64 (x.v.toNat : Int)] 71)).cell? ⟨bt, ot + n, none⟩ = some (.int .u64 (v.toNat : Int)) :=
    (World.cell?_of_block (hTu.block bt hbt (by simp; omega))).trans hct
  clear hT hR' hg hA1 hp hq hu1 hA2 hu2 hA3 hTK hva hvb hl1 hl2 hlR getC kA kA1 kA2 kRa kRb hnt hnr hna hR hA h3 hct hta hszs
  go_enter Tryz.func86, Tryz.ntmps86
  go_wp2_with fail
  generalize hW2 : ((w.setCell ⟨ga, x.d.toNat, none⟩ (.int .u64 0)).alloc (.cells #[.slice (some ⟨gr, 0, none⟩) nr cr, .slice (some ⟨ga, 0, none⟩) na ca, .slice (some ⟨bt, ot, none⟩) nt ct] 121)).alloc (.cells #[.int .i64 x.kind, .int .i64 x.d, .int .i64 x.a, .int .i64 x.b, .int .u64 (x.v.toNat : Int)] 71) = W2 at *
  have hz2 : W2.heap.size = w.heap.size + 2 := by rw [← hW2]; simp [World.setCell]
  clear hW2
  obtain ⟨s0, s1, s2, s3, s4, s5⟩ := hBs.c3
  obtain ⟨o0, o1, o2, o3, o4, o5, o6, o7, o8, o9⟩ := hBo.c5
  obtain ⟨vd, hvd⟩ : ∃ vd, R[x.d.toNat]? = some vd := ⟨R[x.d.toNat]'(by have := HNR.out; omega), List.getElem?_eq_getElem _⟩
  have rd : W2.cell? ⟨gr, x.d.toNat, none⟩ = some (.int .u64 (vd.toNat : Int)) := by simpa [Flat.n] using hown1.cellAt hvd (f := 0) rfl
  have rf := hown1.frozen x.d.toNat
  go_still_tail 10, (by kernel_rfl)
  change wpList _ _ _ _ _ W2.drew
  go_wp2_with fail
  have hT3 : Turned [gr] W2 (W2.setCell ⟨gr, x.d.toNat, none⟩ (.int .u64 (v.toNat : Int))).drew := (Turned.ofGrown (F := [gr]) (grown_setCell _ _ _ _) (fun q hq => .inl (by injection hq with hq; simp [hq]))).drew
  have hown3 : Own (W2.setCell ⟨gr, x.d.toNat, none⟩ (.int .u64 (v.toNat : Int))).drew Br 50 (some ⟨gr, 0, none⟩) cr (R.set x.d.toNat v) := (hown1.set1 x.d.toNat v _ rfl).drew
  rw [HR'.out] at hown3
  have hown4 := hown2.turned hT3 (fun q hq => by simp at hq; simp; omega)
  have hBs3 : Blk (W2.setCell ⟨gr, x.d.toNat, none⟩ (.int .u64 (v.toNat : Int))).drew w.heap.size 121 #[.slice (some ⟨gr, 0, none⟩) nr cr, .slice (some ⟨ga, 0, none⟩) na ca, .slice (some ⟨bt, ot, none⟩) nt ct] := (hT3.block _ (by omega) (by simp; omega)).trans hBs
  have hBo3 : Blk (W2.setCell ⟨gr, x.d.toNat, none⟩ (.int .u64 (v.toNat : Int))).drew (w.heap.size + 1) 71 #[.int .i64 x.kind, .int .i64 x.d, .int .i64 x.a, .int .i64 x.b, .int .u64 (x.v.toNat : Int)] := (hT3.block _ (by omega) (by simp; omega)).trans hBo
  have hTT3 : Turned [gr, ga] w (W2.setCell ⟨gr, x.d.toNat, none⟩ (.int .u64 (v.toNat : Int))).drew := (hTu.mono (fun q hq => .inl (by simp at hq; simp [hq]))).trans hT3 (fun q hq => .inl (by simp at hq; simp [hq]))
  have hz3 := hT3.size
  clear s0 s1 s2 s3 s4 s5 o0 o1 o2 o3 o4 o5 o6 o7 o8 o9 rd rf hown1 hown2 hBs hBo hTu hct2
  generalize (W2.setCell ⟨gr, x.d.toNat, none⟩ (.int .u64 (v.toNat : Int))).drew = W3 at *
  obtain ⟨s0, s1, s2, s3, s4, s5⟩ := hBs3.c3
  obtain ⟨o0, o1, o2, o3, o4, o5, o6, o7, o8, o9⟩ := hBo3.c5
  have ra : W3.cell? ⟨gr, x.a.toNat, none⟩ = some (.int .u64 (va.toNat : Int)) := by simpa [Flat.n] using hown3.cellAt KRa.out (f := 0) rfl
  have rb : W3.cell? ⟨gr, x.b.toNat, none⟩ = some (.int .u64 (vb.toNat : Int)) := by simpa [Flat.n] using hown3.cellAt KRb.out (f := 0) rfl
  have hsz1 : w.heap.size < W3.heap.size := by omega
  have hsz2 : w.heap.size + 1 < W3.heap.size := by omega
  have hd0 : Below W3.heap.size W3 W3.drew := Below.drew (Below.refl _ _)
  go_region_held3 (fun w' => (w'.cell? ⟨w.heap.size, 0, none⟩ = some (.slice (some ⟨gr, 0, none⟩) nr cr) ∧ w'.cell? ⟨w.heap.size, 1, none⟩ = some (.slice (some ⟨ga, 0, none⟩) na ca)) ∧ (w'.cell? ⟨w.heap.size + 1, 0, none⟩ = some (.int .i64 x.kind) ∧ w'.cell? ⟨w.heap.size + 1, 1, none⟩ = some (.int .i64 x.d) ∧ w'.cell? ⟨w.heap.size + 1, 2, none⟩ = some (.int .i64 x.a) ∧ w'.cell? ⟨w.heap.size + 1, 3, none⟩ = some (.int .i64 x.b) ∧ w'.cell? ⟨w.heap.size + 1, 4, none⟩ = some (.int .u64 (x.v.toNat : Int))) ∧ w'.cell? ⟨gr, x.a.toNat, none⟩ = some (.int .u64 (va.toNat : Int)) ∧ w'.cell? ⟨gr, x.b.toNat, none⟩ = some (.int .u64 (vb.toNat : Int))) (go_keep)
    ((go_at_call 98; go_must ((refine (HP.out _).mono ?_); rintro e w4 ⟨rfl, hb4⟩; have hB4 := hd0.trans (hb4.mono hd0.size); obtain ⟨y0, _⟩ := bcell hB4; have t0 := (y0 _ 0 hsz1).trans s0; have t1 := (y0 _ 1 hsz1).trans s1; have p0 := (y0 _ 0 hsz2).trans o0; have p1 := (y0 _ 1 hsz2).trans o1; have p2 := (y0 _ 2 hsz2).trans o2; have p3 := (y0 _ 3 hsz2).trans o3; have p4 := (y0 _ 4 hsz2).trans o4; have pa := (y0 gr x.a.toNat (by omega)).trans ra; have pb := (y0 gr x.b.toNat (by omega)).trans rb)))
  have hown5 := hown3.belowN hB4
  have hown6 := hown4.belowN hB4
  have c6 : w4.cell? ⟨ga, x.a.toNat, none⟩ = some (.int .u64 (u1.toNat : Int)) := by simpa [Flat.n] using hown6.cellAt KA1.out (f := 0) rfl
  have f6 := hown6.frozen x.a.toNat
  have hown7 := hown6.set1 x.a.toNat (u1 + p * g) _ rfl
  rw [HA2.out] at hown7
  have c7 : (w4.setCell ⟨ga, x.a.toNat, none⟩ (.int .u64 ((u1 + p * g).toNat : Int))).cell? ⟨ga, x.b.toNat, none⟩ = some (.int .u64 (u2.toNat : Int)) := by simpa [Flat.n] using hown7.cellAt KA2.out (f := 0) rfl
  have f7 := hown6.frozen x.b.toNat
  have hown8 := hown7.set1 x.b.toNat (u2 + q * g) _ rfl
  rw [HA3.out] at hown8
  have hT8 : Turned [gr, ga] w ((w4.setCell ⟨ga, x.a.toNat, none⟩ (.int .u64 ((u1 + p * g).toNat : Int))).setCell ⟨ga, x.b.toNat, none⟩ (.int .u64 ((u2 + q * g).toNat : Int))) :=
    ((hTT3.trans (Turned.ofBelow (F := []) hB4) (fun q hq => by cases hq)).trans (Turned.ofGrown (F := [ga]) (grown_setCell _ _ _ _) (fun q hq => .inl (by injection hq with hq; simp [hq]))) (fun q hq => .inl (by simp at hq; simp [hq]))).trans (Turned.ofGrown (F := [ga]) (grown_setCell _ _ _ _) (fun q hq => .inl (by injection hq with hq; simp [hq]))) (fun q hq => .inl (by simp at hq; simp [hq]))
  have hown9 := hown5.turned (Turned.ofGrown (F := [ga]) (grown_setCell w4 ga x.a.toNat (.int .u64 ((u1 + p * g).toNat : Int))) (fun q hq => .inl (by injection hq with hq; simp [hq]))) (fun q hq => by simp at hq; simp; omega)
  have hown10 := hown9.turned (Turned.ofGrown (F := [ga]) (grown_setCell _ ga x.b.toNat (.int .u64 ((u2 + q * g).toNat : Int))) (fun q hq => .inl (by injection hq with hq; simp [hq]))) (fun q hq => by simp at hq; simp; omega)
  have hz4 := hB4.size
  by_cases hab : x.b.toNat = x.a.toNat
  · have hu2 : u2 = u1 + p * g := by
      have h := KA2.out
      rw [← HA2.out, hab, List.getElem?_set_self (by have := (List.getElem?_eq_some_iff.1 KA1.out).1; omega)] at h
      injection h with h
      exact h.symm
    subst hu2
    rw [hab] at hown8 hT8 hown10
    clear hown5 hown6 hown7 hown9 c7 f7
    go_wp2
    go_end0
    first
      | (rw [u64_mac u1 p g, e2]; exact ⟨rfl, hown10, hown8, hT8⟩)
      | (rw [u64_mac u1 p g, u64_mac u2 q g]; exact ⟨rfl, hown10, hown8, hT8⟩)
  · have hab2 : ¬ x.a.toNat = x.b.toNat := fun e => hab e.symm
    have c8 : w4.cell? ⟨ga, x.b.toNat, none⟩ = some (.int .u64 (u2.toNat : Int)) := by
      have h := KA2.out
      rw [← HA2.out, List.getElem?_set_ne hab2] at h
      simpa [Flat.n] using hown6.cellAt h (f := 0) rfl
    clear hown5 hown6 hown7 hown9 c7
    go_wp2
    go_end0
    first
      | (rw [u64_mac u1 p g, e2]; exact ⟨rfl, hown10, hown8, hT8⟩)
      | (rw [u64_mac u1 p g, u64_mac u2 q g]; exact ⟨rfl, hown10, hown8, hT8⟩)
end Go.Proofs.YtmmepffdjmpblaaGreat
