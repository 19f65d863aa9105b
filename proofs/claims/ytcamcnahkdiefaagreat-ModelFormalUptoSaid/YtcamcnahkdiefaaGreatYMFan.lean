/- Several texts of mine in one file. -/
import Derived.Test.YtcamcnahkdiefaaGreatYMFam
/- symbol.run: of which blocks the results are. -/
namespace Go.Proofs.YtcamcnahkdiefaaGreat
set_option linter.unusedVariables false
set_option linter.unusedSimpArgs false
open Go.RowKit Go.Maps
set_option maxRecDepth 100000 in
set_option maxHeartbeats 6400000 in
theorem RunSymQ_calls (QP : Nat → Prop) (va : Int) (a : Option Addr) (ln c : Nat) (l : List OpD) (hln : ln = l.length) (sa : Option Addr) (sn sc : Nat) (hs : List PoH) (r : List (List Tm)) (hsn : sn = hs.length) (h0 : 0 < sn) (w : World) (h : At w a l) (hst : At w sa hs) (hP : PsAt (fun q => q < w.heap.size) w va hs r) (hAll : AllP va r)
    (hin : ∀ x ∈ l, (1 ≤ x.kind ∧ x.kind ≤ 6) ∧ InR (sn : Int) x) (hl : ln ≤ 1000000) (hsl : sn ≤ 1000000) (EE : Int) (RR : List (List Tm)) (hR : runS va l r = (EE, RR)) :
    Calls Tryz.prog 42 #[.slice a ln c, .slice sa sn sc] w (PolysOutQ QP va RR EE w) := by
  have HLN := hide hln
  have HSN := hide hsn
  have HSR := hide (show r.length = sn by rw [← hP.1, hsn])
  clear hln hsn
  have hmm := @run_makeMap Tryz.prog
  have hb0 := (below_box w (.map #[] 0)).alloc (by simp) (.cells #[.int .i64 0, .map (some w.heap.size), .int .i64 0] 159)
  have hm0 := (World.ownsMap_made w Tryz.prog 206 heldR).alloc (.cells #[.int .i64 0, .map (some w.heap.size), .int .i64 0] 159)
  have hk0 := Blk.new (w.alloc (.map #[] 0)) 159 #[.int .i64 0, .map (some w.heap.size), .int .i64 0]
  simp only [World.size_alloc] at hk0
  go_enter Tryz.func42, Tryz.ntmps42
  go_wp2
  refine wp_scope_straight ?_
  go_wp2
  go_loopw [7, 23] (fun rv iv wr => ∃ (k : Nat) (a' : Option Addr) (c' : Nat) (T : List StH) (vk : Int), rv = .slice a' k c' ∧ iv = .int .i64 k ∧ k ≤ sn ∧ Own wr (w.heap.size + 1 + 1) 162 a' c' T ∧ StsOk (fun q => q < w.heap.size) wr va (r.take k) T (r.take k) ∧
    Blk wr (w.heap.size + 1) 159 #[.int .i64 vk, .map (some w.heap.size), .int .i64 (k : Int)] ∧ (0 < k → vk = va) ∧ wr.ownsMap Tryz.prog 206 heldR w.heap.size 0 (.map []) ∧ Below w.heap.size w wr ∧ w.heap.size + 1 + 1 ≤ wr.heap.size) (fun _ iv _ => sn - (intOf iv).toNat)
  case atStart => exact ⟨0, _, _, [], 0, rfl, rfl, by omega, Own.none _ _ _, StsOk.nil _ _ _ _, hk0, by omega, hm0, hb0, by simp⟩
  case round =>
    obtain ⟨k, a', c', T, vk, rfl, rfl, hk, hown, hT, hbk, hvk, hmp, hb, hz⟩ := hrel
    by_cases hlt : k < sn
    · obtain ⟨b1, off1, x, rfl, hx, c0, c1⟩ := hst.getPo hb (show k < hs.length by have := HSN.out; omega)
      obtain ⟨hv1, hT1⟩ := hP.get hx.out
      rw [hv1] at c0
      obtain ⟨L, hL⟩ : ∃ L, r.getD k [] = L := ⟨_, rfl⟩
      rw [hL] at hT1
      have hrk : r[k]? = some L := by rw [← hL, List.getD_eq_getElem?_getD, List.getElem?_eq_getElem (by have := HSR.out; omega)]; rfl
      have hkl : k = T.length := by rw [hT.1, List.length_take, HSR.out]; omega
      have htk : r.take (k + 1) = r.take k ++ [L] := by rw [List.take_add_one, hrk]; rfl
      have hgb := hbk.lt
      obtain ⟨wo, rfl⟩ : ∃ wo : World, wo = wr := ⟨_, rfl⟩
      obtain ⟨k0, k1, k2, k3, k4, k5⟩ := (hbk.alloc (.cells #[.int .i64 va, .slice x.a x.n x.c] 42)).c3
      have hn1 : w.heap.size + 1 ≠ wo.heap.size := by omega
      have hg1 := grown_setCell wo (w.heap.size + 1) 0 (.int .i64 va)
      have hsz : (wo.setCell ⟨w.heap.size + 1, 0, none⟩ (.int .i64 va)).heap.size = wo.heap.size := by simp [World.setCell]
      have hbk5 := (hbk.set_ 0 (.int .i64 va)).alloc (.cells #[.int .i64 va, .slice x.a x.n x.c] 42)
      have hN := Blk.new (wo.setCell ⟨w.heap.size + 1, 0, none⟩ (.int .i64 va)) 42 #[.int .i64 va, .slice x.a x.n x.c]
      rw [hsz] at hN
      obtain ⟨n0, n1, n2, n3⟩ := hN.c2
      have hne0 := own_ne hown (g := w.heap.size + 1) (by omega)
      have hbx := below_box (wo.setCell ⟨w.heap.size + 1, 0, none⟩ (.int .i64 va)) (.cells #[.int .i64 va, .slice x.a x.n x.c] 42)
      have hb2 := (hb.grown hg1 (by omega) (fun q hq => by injection hq with hq; omega)).alloc (by omega) (.cells #[.int .i64 va, .slice x.a x.n x.c] 42)
      have hown2 := (hown.grown hg1 (.inr hne0)).alloc (.cells #[.int .i64 va, .slice x.a x.n x.c] 42)
      have hT2 := (hT.grown hg1 (fun q hq => by injection hq with hq; omega)).belowN hbx
      have hmp2 := (hmp.kept hg1 (by simp)).alloc (.cells #[.int .i64 va, .slice x.a x.n x.c] 42)
      obtain ⟨m, HM⟩ : ∃ m, Hid (k + 1 = m) := ⟨_, rfl⟩
      have HOF := hide (Of_callsM (w.heap.size + 1) va (.map (some w.heap.size)) k m HM.out (by omega) x.a x.n x.c _ hbk5 va)
      have hTx := hT1.belowN hb2
      have hz2 : w.heap.size + 1 + 1 ≤ ((wo.setCell ⟨w.heap.size + 1, 0, none⟩ (.int .i64 va)).alloc (.cells #[.int .i64 va, .slice x.a x.n x.c] 42)).heap.size := by simp [World.setCell]; omega
      have HKL := hide hkl
      have HTK := hide htk
      have HT1 := hide hTx
      clear hkl htk hTx hT1 hL hrk hown hT hmp hbk hbk5 hx
      go_wp2_with (first
        | (at_builtin; go_must (refine wpList_push tySt hown7 ⟨va, x.a, x.n, x.c, (m : Int)⟩ rfl rfl rfl rfl rfl rfl HKL.out hz7 (by omega) ?_; intro a3 c3 w3 hown3 hg3 hcs3))
        | (go_at_call 85; go_must ((with_reducible refine (HOF.out).mono ?_); rintro vv w7 ⟨rfl, hbk7, hg7⟩; have hown7 := hown2.grown hg7 (.inr hne0); have hz7 := Nat.le_trans hz2 hg7.size; have hb7 := hb2.grown hg7 (by omega) (fun q hq => by injection hq with hq; omega); have hT7 := hT2.grown hg7 (fun q hq => by injection hq with hq; omega); have hTx7 := HT1.out.grown hg7 (fun q hq => by injection hq with hq; omega); have hmp7 := hmp2.kept hg7 (by simp))))
      have hne3 : a'.map (·.block) ≠ some (w.heap.size + 1) := hne0
      have hne4 := own_ne hown7 (g := w.heap.size) (by omega)
      have hrow : ∀ q, a'.map (·.block) = some q → ¬ q < w.heap.size := fun q hq => by have := (hown7.blk q hq).1; omega
      have hm := HM.out
      subst hm
      go_roundw
      case rel =>
        refine ⟨k + 1, a3, c3, T ++ [⟨va, x.a, x.n, x.c, ((k + 1 : Nat) : Int)⟩], va, by go_num, by go_num, by omega, hown3, ?_, hbk7.grown hg3 (fun e => hne3 e.symm), fun _ => rfl, hmp7.kept hg3 (fun e => hne4 e.symm), hb7.grown hg3 (by omega) (fun q hq => by have := (hown7.blk q hq).1; omega), Nat.le_trans hz7 hg3.size⟩
        rw [HTK.out]
        exact ((hT7.more [L]).grown hg3 hrow).push ⟨rfl, hTx7.grown hg3 hrow, by simp; omega, by simp; rw [List.getElem?_append_right (by have := hT7.1; have := HKL.out; omega)]; simp [← hT7.1, ← HKL.out]⟩
      case measure => simp [intOf] <;> omega
    · have hkn : k = sn := by omega
      subst hkn
      have hr : r.take k = r := by rw [← HSR.out, List.take_length]
      rw [hr] at hT
      obtain rfl := hvk h0
      obtain ⟨gd, e1, hgB, hgz⟩ := hown.some_ (by rintro rfl; have := hT.1; have := HSR.out; simp at *; omega)
      subst e1
      have hTl : T.length = k := by rw [hT.1, HSR.out]
      have hT0 := hT.imp (Q := offR gd (w.heap.size + 1) w.heap.size) (fun q hq => by unfold offR; omega)
      have hBk : BookM (offR gd (w.heap.size + 1) w.heap.size) wr (w.heap.size + 1) w.heap.size vk r (.map []) := ⟨by rw [HSR.out]; exact hbk, by rw [HSR.out]; exact hmp.mono (by omega), Known.empty _ _ _ _⟩
      have HIN := hide hin
      have HR := hide hR
      clear hin hR hlt hk hst hP hvk hT hbk hmp hr
      obtain ⟨wo, rfl⟩ : ∃ wo : World, wo = wr := ⟨_, rfl⟩
      go_wp2
      go_step3
      go_wp2
      go_loopw [10, 41] (fun ev iv wr => ∃ (j : Nat) (T' : List StH) (R PL : List (List Tm)) (D : DataW Value), ev = .int .i64 0 ∧ iv = .int .i64 j ∧ j ≤ ln ∧ Own wr (w.heap.size + 1 + 1) 162 (some ⟨gd, 0, none⟩) c' T' ∧ T'.length = k ∧ StsOk (offR gd (w.heap.size + 1) w.heap.size) wr vk PL T' R ∧ AllP vk R ∧ runS vk (l.drop j) R = (EE, RR) ∧
        BookM (offR gd (w.heap.size + 1) w.heap.size) wr (w.heap.size + 1) w.heap.size vk PL D ∧ PL.length ≤ k + j ∧ Below w.heap.size w wr ∧ gd < wr.heap.size) (fun _ iv _ => ln - (intOf iv).toNat)
      case atStart => exact ⟨0, T, r, r, .map [], rfl, rfl, by omega, hown, hTl, hT0, hAll, HR.out, hBk, by rw [HSR.out]; omega, hb, hgz⟩
      case round =>
        obtain ⟨j, T', R, PL, D, rfl, rfl, hj, hown', hTl', hTR, hAR, hRS, hBM, hPLl, hbV, hgzV⟩ := hrel
        have hzV := hbV.size
        by_cases hlt : j < ln
        · have hjl : j < l.length := by have := HLN.out; omega
          obtain ⟨b1', off1, x, rfl, hx, x0, x1, x2, x3, x4⟩ := (h.belowN hbV).getOp (Below.refl _ _) hjl
          obtain ⟨⟨k1, k2⟩, ⟨d1, d2⟩, ⟨p1, p2⟩, ⟨i1, i2⟩⟩ := HIN.out x (List.mem_of_getElem? hx.out)
          have hRlen : R.length = k := by rw [← hTR.1]; exact hTl'
          obtain ⟨pd, hpd⟩ : ∃ y, T'[x.d.toNat]? = some y := ⟨T'[x.d.toNat]'(by omega), List.getElem?_eq_getElem _⟩
          obtain ⟨pa, hpa⟩ : ∃ y, T'[x.a.toNat]? = some y := ⟨T'[x.a.toNat]'(by omega), List.getElem?_eq_getElem _⟩
          obtain ⟨pb, hpb⟩ : ∃ y, T'[x.b.toNat]? = some y := ⟨T'[x.b.toNat]'(by omega), List.getElem?_eq_getElem _⟩
          have hsA := hTR.get hpa
          have hsB := hTR.get hpb
          have hca := hAR.get (k := x.a.toNat) (by omega)
          have hcb := hAR.get (k := x.b.toNat) (by omega)
          rw [drop_at hx.out, runS] at hRS
          generalize R.getD x.a.toNat [] = A at *
          generalize R.getD x.b.toNat [] = B at *
          obtain ⟨e0, he0⟩ : ∃ e, symE vk x.kind x.v A B = e := ⟨_, rfl⟩
          obtain ⟨L0, hL0⟩ : ∃ e, symL vk x.kind x.v A B = e := ⟨_, rfl⟩
          have hfine := sym_fine (k := x.kind) (v := x.v) (B := B) hca
          rw [he0, hL0] at hfine
          rw [he0, hL0] at hRS
          obtain ⟨gx, hgx⟩ : ∃ gx, wr.heap.size = gx := ⟨_, rfl⟩
          have hdq : Below wr.heap.size wr (wr.alloc (.cells #[.int .i64 x.kind, .int .i64 x.d, .int .i64 x.a, .int .i64 x.b, .int .u64 (x.v.toNat : Int)] 89)).drew := Below.drew (below_box wr _)
          have hXb : Blk (wr.alloc (.cells #[.int .i64 x.kind, .int .i64 x.d, .int .i64 x.a, .int .i64 x.b, .int .u64 (x.v.toNat : Int)] 89)).drew wr.heap.size 89 #[.int .i64 x.kind, .int .i64 x.d, .int .i64 x.a, .int .i64 x.b, .int .u64 (x.v.toNat : Int)] := Blk.new wr _ _
          have hF : ∀ g ∈ [w.heap.size + 1, w.heap.size], ¬ offR gd (w.heap.size + 1) w.heap.size g := fun g hg h => by unfold offR at h; simp at hg; omega
          have hFd : gd ∉ [w.heap.size + 1, w.heap.size] := by simp; omega
          have hFx : gx ∉ [w.heap.size + 1, w.heap.size] := by simp; omega
          have HDO := hide (Do_calls (w.heap.size + 1) w.heap.size (by omega) x.kind x.d x.a x.b x.v ⟨k1, k2⟩ (offR gd (w.heap.size + 1) w.heap.size) vk PL (by omega) D pa pb A B _ (hBM.belowN hdq) (fun q hq => by have := hdq.size; have := hXb.lt; unfold offR; omega) (fun h => h.2.1 rfl) (fun h => h.2.2 rfl) (hsA.belowN hdq) (hsB.belowN hdq) hca hcb L0 e0 hL0 he0)
          have hownq := hown'.belowN hdq
          have ca0 := hownq.cellAt hpa (f := 0) rfl
          have ca1 := hownq.cellAt hpa (f := 1) rfl
          have ca2 := hownq.cellAt hpa (f := 2) rfl
          have cb0 := hownq.cellAt hpb (f := 0) rfl
          have cb1 := hownq.cellAt hpb (f := 1) rfl
          have cb2 := hownq.cellAt hpb (f := 2) rfl
          have cd0 := hownq.cellAt hpd (f := 0) rfl
          have cd1 := hownq.cellAt hpd (f := 1) rfl
          have cd2 := hownq.cellAt hpd (f := 2) rfl
          have fd0 := hownq.frozen (x.d.toNat * 3)
          have fd1 := hownq.frozen (x.d.toNat * 3 + 1)
          have fd2 := hownq.frozen (x.d.toNat * 3 + 2)
          simp only [Flat.n, Nat.add_zero] at ca0 ca1 ca2 cb0 cb1 cb2 cd0 cd1 cd2
          rw [hgx] at hXb
          obtain ⟨o0, o1, o2, o3, o4, o5, o6, o7, o8, o9⟩ := hXb.c5
          obtain ⟨S', hS'⟩ : ∃ S' : World → Prop, S' = fun w' => (w'.cell? ⟨gx, 0, none⟩ = some (.int .i64 x.kind) ∧ w'.cell? ⟨gx, 1, none⟩ = some (.int .i64 x.d) ∧ w'.cell? ⟨gx, 2, none⟩ = some (.int .i64 x.a) ∧ w'.cell? ⟨gx, 3, none⟩ = some (.int .i64 x.b) ∧ w'.cell? ⟨gx, 4, none⟩ = some (.int .u64 (x.v.toNat : Int))) ∧ (w'.cell? ⟨gd, x.a.toNat * 3, none⟩ = some (.int .i64 pa.v) ∧ w'.cell? ⟨gd, x.a.toNat * 3 + 1, none⟩ = some (.slice pa.a pa.n pa.c) ∧ w'.cell? ⟨gd, x.a.toNat * 3 + 2, none⟩ = some (.int .i64 pa.k)) ∧ (w'.cell? ⟨gd, x.b.toNat * 3, none⟩ = some (.int .i64 pb.v) ∧ w'.cell? ⟨gd, x.b.toNat * 3 + 1, none⟩ = some (.slice pb.a pb.n pb.c) ∧ w'.cell? ⟨gd, x.b.toNat * 3 + 2, none⟩ = some (.int .i64 pb.k)) := ⟨_, rfl⟩
          have HSE : Hid (∀ w', S' w' → (w'.cell? ⟨gx, 0, none⟩ = some (.int .i64 x.kind) ∧ w'.cell? ⟨gx, 1, none⟩ = some (.int .i64 x.d) ∧ w'.cell? ⟨gx, 2, none⟩ = some (.int .i64 x.a) ∧ w'.cell? ⟨gx, 3, none⟩ = some (.int .i64 x.b) ∧ w'.cell? ⟨gx, 4, none⟩ = some (.int .u64 (x.v.toNat : Int))) ∧ (w'.cell? ⟨gd, x.a.toNat * 3, none⟩ = some (.int .i64 pa.v) ∧ w'.cell? ⟨gd, x.a.toNat * 3 + 1, none⟩ = some (.slice pa.a pa.n pa.c) ∧ w'.cell? ⟨gd, x.a.toNat * 3 + 2, none⟩ = some (.int .i64 pa.k)) ∧ (w'.cell? ⟨gd, x.b.toNat * 3, none⟩ = some (.int .i64 pb.v) ∧ w'.cell? ⟨gd, x.b.toNat * 3 + 1, none⟩ = some (.slice pb.a pb.n pb.c) ∧ w'.cell? ⟨gd, x.b.toNat * 3 + 2, none⟩ = some (.int .i64 pb.k))) := hide (fun w' h => by rw [hS'] at h; exact h)
          have HSI : Hid (S' (wr.alloc (.cells #[.int .i64 x.kind, .int .i64 x.d, .int .i64 x.a, .int .i64 x.b, .int .u64 (x.v.toNat : Int)] 89)).drew) := hide (by rw [hS']; exact ⟨⟨o0, o1, o2, o3, o4⟩, ⟨ca0, ca1, ca2⟩, ⟨cb0, cb1, cb2⟩⟩)
          have hgdq : gd < (wr.alloc (.cells #[.int .i64 x.kind, .int .i64 x.d, .int .i64 x.a, .int .i64 x.b, .int .u64 (x.v.toNat : Int)] 89)).drew.heap.size := Nat.lt_of_lt_of_le hgzV hdq.size
          have hgxq := hXb.lt
          have HST : Hid (∀ w4, Turned [w.heap.size + 1, w.heap.size] (wr.alloc (.cells #[.int .i64 x.kind, .int .i64 x.d, .int .i64 x.a, .int .i64 x.b, .int .u64 (x.v.toNat : Int)] 89)).drew w4 → S' w4) := hide (fun w4 hT4 => by
            have y0 := fun off => (tcell hT4 gx off hgxq hFx).1
            have y1 := fun off => (tcell hT4 gd off hgdq hFd).1
            rw [hS']
            exact ⟨⟨(y0 _).trans o0, (y0 _).trans o1, (y0 _).trans o2, (y0 _).trans o3, (y0 _).trans o4⟩, ⟨(y1 _).trans ca0, (y1 _).trans ca1, (y1 _).trans ca2⟩, ⟨(y1 _).trans cb0, (y1 _).trans cb1, (y1 _).trans cb2⟩⟩)
          have HPD := hide hpd
          have HTR := hide (hTR.belowN hdq)
          have HFI := hide hfine
          have HRS := hide hRS
          have HF := hide hF
          have HB1 := hide hbV
          have HDQ := hide hdq
          have HOW := hide hownq
          clear hfine hRS hL0 he0 hca hcb hsA hsB hpa hpb hpd hTR hF hownq hown' ca0 ca1 ca2 cb0 cb1 cb2 hS' hBM
          go_wp2
          refine wp_region_fan [0, 1, 2, 3, 4, 5, 6, 7, 8, 9, 10, 11, 12, 13, 14] [15, 16] [17, 18] [19, 20, 21] S' (by kernel_rfl) (by kernel_rfl) HSI.out ?_
          simp only [pickL, List.filterMap_cons, List.filterMap_nil, List.getElem?_cons_succ, List.getElem?_cons_zero]
          iterate 15
            apply headK_step (by rfl)
            · intro w' hw'
              obtain ⟨⟨s0, s1, s2, s3, s4⟩, ⟨s5, s6, s7⟩, ⟨s8, s9, s10⟩⟩ := HSE.out w' hw'
              go_simp
              rfl
            intro a' ha'
            simp only [Act.put, List.setIfInBounds_toArray, List.set_cons_succ, List.set_cons_zero] at ha'
            subst ha'
          refine headK_nil ?_
          rw [midF]
          intro K0 hK0
          have HK0 := hide hK0
          clear hK0
          go_simp
          go_at_call 86
          refine (HDO.out).mono ?_
          rintro e w4 ⟨z, rfl, hT4, hz4⟩
          refine HK0.out _ _ (HST.out w4 hT4) ?_
          clear HK0
          rw [midF]
          intro K0 hK0
          have HK0 := hide hK0
          clear hK0
          go_simp
          refine HK0.out _ _ (HST.out w4 hT4) ?_
          clear HK0 HST HSE HSI
          rw [midF]
          iterate 2
            apply headK_step (by rfl)
            · intro w' _
              go_simp
              rfl
            intro a' ha'
            simp only [Act.put, List.setIfInBounds_toArray, List.set_cons_succ, List.set_cons_zero] at ha'
            subst ha'
          refine headK_nil ?_
          have t0 := (tcell hT4 gd (x.d.toNat * 3) hgdq hFd).1.trans cd0
          have t1 := (tcell hT4 gd (x.d.toNat * 3 + 1) hgdq hFd).1.trans cd1
          have t2 := (tcell hT4 gd (x.d.toNat * 3 + 2) hgdq hFd).1.trans cd2
          have t3 := (tcell hT4 gd (x.d.toNat * 3) hgdq hFd).2.trans fd0
          have t4 := (tcell hT4 gd (x.d.toNat * 3 + 1) hgdq hFd).2.trans fd1
          have t5 := (tcell hT4 gd (x.d.toNat * 3 + 2) hgdq hFd).2.trans fd2
          have hR4 := (HOW.out.turned hT4 (fun g hg hm => by simp at hg; subst hg; exact hFd hm)).setSt HPD.out z
          have hg0 := grown_setCell w4 gd (x.d.toNat * 3) (.int .i64 z.v)
          have hg1 := grown_trans hg0 (grown_setCell _ gd (x.d.toNat * 3 + 1) (.slice z.a z.n z.c))
          have hg2 := grown_trans hg1 (grown_setCell _ gd (x.d.toNat * 3 + 2) (.int .i64 z.k))
          have hB4 := HB1.out.trans (HDQ.out.mono (by omega))
          have hB4' := (hT4.below hB4 (fun g hg => by simp at hg; omega) hB4.size)
          have hB5 := hB4'.grown hg2 hB4'.size (fun q hq => by injection hq with hq; omega)
          have hgd5 : gd < (((w4.setCell ⟨gd, x.d.toNat * 3, none⟩ (.int .i64 z.v)).setCell ⟨gd, x.d.toNat * 3 + 1, none⟩ (.slice z.a z.n z.c)).setCell ⟨gd, x.d.toNat * 3 + 2, none⟩ (.int .i64 z.k)).heap.size := Nat.lt_of_lt_of_le hgdq (Nat.le_trans hT4.size hg2.size)
          have HG2 := hide hg2
          have HT4 := hide hT4
          have HZ4 := hide hz4
          clear hg0 hg1 hg2 hT4 hz4 cd0 cd1 cd2 fd0 fd1 fd2
          go_wp2
          refine NoPanic.normal ?_
          by_cases he : e0 = 0
          · have he1 : (e0 == 0) = true := by simpa using he
            have he2 : (e0 != 0) = false := by simpa using he
            have hrr := HRS.out
            rw [if_pos he] at hrr
            obtain ⟨f1, f2⟩ := HFI.out he
            obtain ⟨ext, D', hz, hBM4, hext⟩ := HZ4.out he
            have hP5 := ((((HTR.out.turned HT4.out HF.out).more ext).set x.d.toNat hz).grown HG2.out (fun g hg => by injection hg with hg; subst hg; exact fun h => h.1 rfl))
            have hBM5 := hBM4.grown HG2.out (by omega) (by omega) (fun h => h.1 rfl)
            have hA6 := hAR.set f2 x.d.toNat
            have HRR := hide hrr
            have HE0 := hide he
            clear hrr f1 f2 he HZ4 hBM4 hz
            go_wp2
            go_roundw
            case rel => exact ⟨j + 1, _, _, PL ++ ext, D', by rw [HE0.out], by go_num, by omega, hR4, by simp [hTl'], hP5, hA6, HRR.out, hBM5, by rw [List.length_append]; omega, hB5, hgd5⟩
            case measure => simp [intOf] <;> omega
          · have he1 : (e0 == 0) = false := by simpa using he
            have he2 : (e0 != 0) = true := by simpa using he
            have hrr := HRS.out
            rw [if_neg he] at hrr
            injection hrr with hE1 hE2
            have HE1 := hide hE1
            have HE2 := hide hE2
            clear hE1 hE2 he
            go_wp2
            try rw [Exit.noGoto_ret]
            go_ret2
            refine ⟨none, 0, 0, [], ?_, by rw [← HE2.out]; rfl, Own.none _ _ _, by rw [← HE2.out]; exact PsAt.nil _ _ _, hB5⟩
            rw [← HE1.out]
            rfl
        · have hjn : j = ln := by omega
          subst hjn
          rw [show l.drop j = [] by rw [HLN.out, List.drop_length], runS] at hRS
          injection hRS with hE1 hE2
          have HE1 := hide hE1
          have HE2 := hide hE2
          have hRlen : R.length = k := by rw [← hTR.1]; exact hTl'
          obtain ⟨w2, rfl⟩ : ∃ w2 : World, w2 = wr := ⟨_, rfl⟩
          clear hE1 hE2 hBM hj
          go_wp2
          go_loopw [13, 73] (fun rv iv wr => ∃ (m : Nat) (a3 : Option Addr) (c3 : Nat) (hs3 : List PoH), rv = .slice a3 m c3 ∧ iv = .int .i64 m ∧ m ≤ k ∧ Own wr w2.heap.size 42 a3 c3 hs3 ∧ hs3.length = m ∧ PsAt (fun q => a3.map (·.block) ≠ some q ∧ w2.heap.size ≤ q) wr vk hs3 (R.take m) ∧ Below w2.heap.size w2 wr) (fun _ iv _ => k - (intOf iv).toNat)
          case atStart => exact ⟨0, none, 0, [], rfl, rfl, by omega, Own.none _ _ _, rfl, PsAt.nil _ _ _, Below.refl _ _⟩
          case round =>
            obtain ⟨m, a3, c3, hs3, rfl, rfl, hm, hown3, hl3, hP3, hb3⟩ := hrel
            have hz3 := hb3.size
            by_cases hlt3 : m < k
            · obtain ⟨y, hy⟩ : ∃ y, T'[m]? = some y := ⟨T'[m]'(by omega), List.getElem?_eq_getElem _⟩
              have hsy := (hTR.get hy).belowN hb3
              have hcy := hAR.get (k := m) (by omega)
              obtain ⟨L, hL⟩ : ∃ L, R.getD m [] = L := ⟨_, rfl⟩
              rw [hL] at hsy hcy
              have hrm : R[m]? = some L := by rw [← hL, List.getD_eq_getElem?_getD, List.getElem?_eq_getElem (by omega)]; rfl
              have htk : R.take (m + 1) = R.take m ++ [L] := by rw [List.take_add_one, hrm]; rfl
              have hown4 := hown'.belowN hb3
              have c0 := hown4.cellAt hy (f := 0) rfl
              have c1 := hown4.cellAt hy (f := 1) rfl
              have c2 := hown4.cellAt hy (f := 2) rfl
              simp only [Flat.n, Nat.add_zero] at c0 c1 c2
              rw [hsy.v] at c0
              obtain ⟨f1, f2⟩ := checkP_len hcy
              obtain ⟨g1, g2, g3⟩ := mk_self hcy
              obtain ⟨w3, rfl⟩ : ∃ w3 : World, w3 = wr := ⟨_, rfl⟩
              have hbs := below_box w3 (.cells #[.int .i64 vk, .slice y.a y.n y.c, .int .i64 y.k] 162)
              have hNs := Blk.new w3 162 #[.int .i64 vk, .slice y.a y.n y.c, .int .i64 y.k]
              obtain ⟨n0, n1, n2, n3, n4, n5⟩ := hNs.c3
              have HPM := hide (PMake_calls _ vk y.a y.n y.c L _ (hsy.t.belowN hbs) (by have := hsy.t.len; omega) f2 vk L 0 g2 g3 g1)
              have hown5 := hown3.belowN hbs
              have hP5 := (hP3.bounded).belowN hbs
              have hb5 := hb3.trans (hbs.mono hz3)
              have HKL := hide hl3.symm
              have HTK := hide htk
              have HVV := hide hsy.v
              clear hl3 htk hL hrm hy hsy hcy hown3 hown4 f1 f2 g1 g2 g3
              go_wp2_with (first
                | (at_builtin; go_must (have hgd := hT9; refine wpList_push tyPo hown10 ⟨vk, a9, n9, c9⟩ rfl rfl rfl rfl rfl (by simp) HKL.out hz10 (by omega) ?_; intro a4 c4 w4 hown6 hg6 hcs6))
                | (go_at_call 84; go_must ((with_reducible refine (HPM.out).mono ?_); rintro vv w9 ⟨a9, n9, c9, rfl, hT9, hb9⟩; have hb10 := hb9.trans ((below_box w9 (.cells #[.int .i64 vk, .slice a9 n9 c9] 42)).mono hb9.size); have hown10 := hown5.belowN hb10; have hz10 : w2.heap.size ≤ (w9.alloc (.cells #[.int .i64 vk, .slice a9 n9 c9] 42)).heap.size := (by have := hb5.size; have := hb10.size; omega); have hN10 := Blk.new w9 42 #[.int .i64 vk, .slice a9 n9 c9]; obtain ⟨p0, p1, p2, p3⟩ := hN10.c2)))
              have hb12 := below_push (hb5.trans (hb10.mono hb5.size)) hown10 hg6 hz10
              have hP6 := ((hP5.belowN hb10).grown hg6 (fun q hq h => h.1.1 hq)).imp (Q := fun q => a4.map (·.block) ≠ some q ∧ w2.heap.size ≤ q) (fun q hq => ⟨ne_push hcs6 hq.1.1 (by have := hbs.size; have := hb10.size; omega), hq.1.2⟩)
              have hT10 := ((hT9.bounded.belowN (below_box w9 (.cells #[.int .i64 vk, .slice a9 n9 c9] 42))).grown hg6 (fun q hq h => by have := (hown5.blk q hq).2; omega)).imp (Q := fun q => a4.map (·.block) ≠ some q ∧ w2.heap.size ≤ q) (fun q hq => ⟨ne_push hcs6 (fun e => by have := (hown5.blk q e).2; omega) (by rw [World.size_alloc]; omega), by have h8 := hq.1; have h9 := hb5.size; omega⟩)
              go_roundw
              case rel => exact ⟨m + 1, a4, c4, hs3 ++ [⟨vk, a9, n9, c9⟩], by go_num, by go_num, by omega, hown6, by simp [← HKL.out], by rw [HTK.out]; exact hP6.push rfl hT10, hb12⟩
              case measure => simp [intOf] <;> omega
            · have hmk : m = k := by omega
              subst hmk
              rw [show R.take m = R by rw [← hRlen, List.take_length]] at hP3
              go_wp2
              try rw [Exit.noGoto_ret]
              go_ret2
              refine ⟨a3, m, c3, hs3, ?_, by rw [← HE2.out, hRlen], hown3.mono hzV, by rw [← HE2.out]; exact hP3.imp fun q hq => .inr (by have := hq.2; omega), hbV.trans (hb3.mono hzV)⟩
              rw [← HE1.out]
              rfl
end Go.Proofs.YtcamcnahkdiefaaGreat

/- symbol.After and the document's answer: of which blocks the results are. -/
namespace Go.Proofs.YtcamcnahkdiefaaGreat
set_option linter.unusedVariables false
set_option linter.unusedSimpArgs false
open Go.RowKit
set_option maxRecDepth 100000 in
set_option maxHeartbeats 6400000 in
theorem AfterQ_bad (regs : Int) (a : Option Addr) (c : Nat) (l : List OpD) (sa : Option Addr) (sn sc : Nat) (QP : Nat → Prop) (w : World) (h : At w a l) (hl : l.length ≤ 1000000) (hc : checkS regs l ≠ 0) (E va : Int) (hE : checkS regs l = E) :
    Calls Tryz.prog 19 #[.agg #[.int .i64 regs, .slice a l.length c], .slice sa sn sc] w (PolysOutQ QP va [] E w) := by
  have hb0 := below_box w (.cells #[.int .i64 regs, .slice a l.length c] 24)
  obtain ⟨p0, p1, p2, p3⟩ := (Blk.new w 24 #[.int .i64 regs, .slice a l.length c]).c2
  have HU := hide (UnrollR regs a c l _ [] E (unrS_bad hc) hE (h.belowN hb0) hl)
  have e1 : (E == 0) = false := by rw [← hE]; simpa using hc
  have e2 : (E != 0) = true := by rw [← hE]; simpa using hc
  clear hE hc
  go_enter Tryz.func19, Tryz.ntmps19
  go_wp2_with (go_at_call 17; go_must ((with_reducible refine (HU.out).mono ?_); rintro e w1 ⟨a1, c1, rfl, hown1, hb1⟩))
  go_ret2
  exact ⟨none, 0, 0, [], rfl, rfl, Own.none _ _ _, PsAt.nil _ _ _, hb0.trans (hb1.mono hb0.size)⟩
set_option maxRecDepth 100000 in
set_option maxHeartbeats 6400000 in
theorem AfterQ_dims (nr : Nat) (a : Option Addr) (c n : Nat) (f : Fo) (hn : n = f.flat.length) (g : Good (nr : Int) f) (sa : Option Addr) (sn sc : Nat) (hsn : sn ≠ nr) (QP : Nat → Prop) (w : World) (h : At w a f.flat) (va : Int) :
    Calls Tryz.prog 19 #[.agg #[.int .i64 (nr : Int), .slice a n c], .slice sa sn sc] w (PolysOutQ QP va [] 10 w) := by
  have hl : f.flat.length ≤ 4096 := g.len
  have hb0 := below_box w (.cells #[.int .i64 (nr : Int), .slice a n c] 24)
  have hX := Blk.new w 24 #[.int .i64 (nr : Int), .slice a n c]
  obtain ⟨p0, p1, p2, p3⟩ := hX.c2
  have HU := hide (UnrollR (nr : Int) a c f.flat _ f.unroll 0 (unrS_good g) g.check (h.belowN hb0) (by omega))
  rw [← hn] at HU
  obtain ⟨U, hU⟩ : ∃ U, f.unroll = U := ⟨_, rfl⟩
  rw [hU] at HU
  have d1 : ((sn : Int) != (nr : Int)) = true := by simp; omega
  have d2 : ((sn : Int) == (nr : Int)) = false := by simp; omega
  clear g hn hl hU h hsn
  go_enter Tryz.func19, Tryz.ntmps19
  go_wp2_with (go_at_call 17; go_must ((with_reducible refine (HU.out).mono ?_); rintro e w1 ⟨a1, c1, rfl, hown1, hb1⟩; obtain ⟨r0, r1, r2, r3⟩ := (hX.belowN hb1).c2))
  go_ret2
  exact ⟨none, 0, 0, [], rfl, rfl, Own.none _ _ _, PsAt.nil _ _ _, hb0.trans (hb1.mono hb0.size)⟩
set_option maxRecDepth 100000 in
set_option maxHeartbeats 6400000 in
theorem AfterQ_good (nr : Nat) (a : Option Addr) (c n : Nat) (f : Fo) (hn : n = f.flat.length) (g : Good (nr : Int) f) (sa : Option Addr) (sc : Nat) (hs : List PoH) (r : List (List Tm)) (hsn : nr = hs.length) (QP : Nat → Prop) (w : World) (h : At w a f.flat) (hst : At w sa hs) (hP : PsV (fun q => QP q ∧ q < w.heap.size) w hs r)
    (v0 : Int) (hv0 : (hs.map (·.v)).headD 0 = v0) (EE : Int) (RR : List (List Tm)) (hR : (if okStart v0 (hs.map (·.v)) r = false then (2, []) else runS v0 f.unroll r) = (EE, RR)) :
    Calls Tryz.prog 19 #[.agg #[.int .i64 (nr : Int), .slice a n c], .slice sa nr sc] w (PolysOutQ QP v0 RR EE w) := by
  have hl : f.flat.length ≤ 4096 := g.len
  have h1 : 1 ≤ nr := by have := g.r1; omega
  have h64 : nr ≤ 64 := by have := g.r2; omega
  have hb0 := below_box w (.cells #[.int .i64 (nr : Int), .slice a n c] 24)
  have hX := Blk.new w 24 #[.int .i64 (nr : Int), .slice a n c]
  obtain ⟨p0, p1, p2, p3⟩ := hX.c2
  have HU := hide (UnrollR (nr : Int) a c f.flat _ f.unroll 0 (unrS_good g) g.check (h.belowN hb0) (by omega))
  rw [← hn] at HU
  have HIN := hide (fun x hx => (⟨(f.unroll_mem g.ok x hx).2, g.inR x hx⟩ : (1 ≤ x.kind ∧ x.kind ≤ 6) ∧ InR (nr : Int) x))
  have hul := g.unroll_le
  obtain ⟨U, hU⟩ : ∃ U, f.unroll = U := ⟨_, rfl⟩
  rw [hU] at HU HIN hR hul
  obtain ⟨Bs, hBs⟩ : ∃ B, okStart v0 (hs.map (·.v)) r = B := ⟨_, rfl⟩
  rw [hBs] at hR
  have HR := hide hR
  have HSN := hide hsn
  have HP := hide hP
  have HBS := hide hBs
  have hlr : r.length = nr := by rw [← hP.1, hsn]
  obtain ⟨y0, hy0⟩ : ∃ y, hs[0]? = some y := ⟨hs[0]'(by omega), List.getElem?_eq_getElem _⟩
  have hyv : y0.v = v0 := by
    rw [← hv0]
    cases hs with
    | nil => simp at hy0
    | cons x t => simp at hy0; subst hy0; rfl
  have HLR := hide hlr
  have HY0 := hide hy0
  clear hR g hn hl hU h hsn hP hv0 hBs hlr hy0
  go_enter Tryz.func19, Tryz.ntmps19
  go_wp2_with (go_at_call 17; go_must ((with_reducible refine (HU.out).mono ?_); rintro e w1 ⟨a1, c1, rfl, hown1, hb1⟩; obtain ⟨r0, r1, r2, r3⟩ := (hX.belowN hb1).c2))
  have hB1 := hb0.trans (hb1.mono hb0.size)
  have hz1 := hB1.size
  go_loopw [27] (fun iv wr => ∃ (k : Nat), iv = .int .i64 k ∧ k ≤ nr ∧ Below w1.heap.size w1 wr ∧ okStart v0 ((hs.map (·.v)).drop k) (r.drop k) = Bs) (fun iv _ => nr - (intOf iv).toNat)
  case atStart => exact ⟨0, rfl, by omega, Below.refl _ _, by rw [List.drop_zero, List.drop_zero]; exact HBS.out⟩
  case round =>
    obtain ⟨k, rfl, hk, hb3, hok⟩ := hrel
    have hz3 := hb3.size
    have hBw := hB1.trans (hb3.mono hz1)
    by_cases hlt : k < nr
    · obtain ⟨b1, off1, y, rfl, hy, c0, c1⟩ := (hst.belowN hBw).getPo (Below.refl _ _) (k := k) (by rw [← HSN.out]; exact hlt)
      obtain ⟨bz, offz, yz, hez, hyz, c2, c3⟩ := (hst.belowN hBw).getPo (Below.refl _ _) (k := 0) (by rw [← HSN.out]; exact h1)
      cases hez
      obtain rfl : yz = y0 := Option.some.inj (hyz.out.symm.trans HY0.out)
      rw [hyv, Nat.zero_mul, Nat.add_zero] at c2
      obtain ⟨L, hL⟩ : ∃ L, r[k]? = some L := ⟨r[k]'(by have := HLR.out; omega), List.getElem?_eq_getElem _⟩
      obtain ⟨hTx, hn6, hl6⟩ := (HP.out).2 k y L hy.out hL
      rw [okStart_drop hy.out hL] at hok
      obtain ⟨C, hC⟩ : ∃ C, checkP y.v L = C := ⟨_, rfl⟩
      rw [hC] at hok
      have hbx : b1 < wr.heap.size := World.block_lt_of_cell? wr _ c0
      have HCK := hide (fun (W : World) (hW : Below w.heap.size w W) => Check_calls y.v y.a y.n y.c L hTx.len W (hTx.at_.at_.belowN hW) hn6 hl6 C hC)
      have HBW := hide hBw
      have HY := hide hy
      have HOK := hide hok
      have HL := hide hL
      clear hTx hn6 hl6 hL hC hyz hy hok
      obtain ⟨gx, hgx⟩ : ∃ gx, wr.heap.size = gx := ⟨_, rfl⟩
      have hXb := Blk.new wr 42 #[.int .i64 y.v, .slice y.a y.n y.c]
      have hdq : Below wr.heap.size wr (wr.alloc (.cells #[.int .i64 y.v, .slice y.a y.n y.c] 42)).drew := Below.drew (below_box wr _)
      rw [hgx] at hXb
      have hbq := hXb.lt
      have c9 := (cell_later (below_box wr (.cells #[.int .i64 y.v, .slice y.a y.n y.c] 42)) c2)
      have HSI : Hid (∀ w4, Below (wr.alloc (.cells #[.int .i64 y.v, .slice y.a y.n y.c] 42)).heap.size (wr.alloc (.cells #[.int .i64 y.v, .slice y.a y.n y.c] 42)) w4 → w4.cell? ⟨gx, 0, none⟩ = some (.int .i64 y.v) ∧ w4.cell? ⟨gx, 1, none⟩ = some (.slice y.a y.n y.c) ∧ w4.cell? ⟨b1, off1, none⟩ = some (.int .i64 v0)) := hide (fun w4 hb4 => by
        obtain ⟨y0, _⟩ := bcell hb4
        obtain ⟨n0, n1, n2, n3⟩ := hXb.c2
        exact ⟨(y0 _ _ hbq).trans n0, (y0 _ _ hbq).trans n1, (y0 _ _ (by have := World.size_alloc wr (.cells #[.int .i64 y.v, .slice y.a y.n y.c] 42); omega)).trans c9⟩)
      obtain ⟨n0, n1, n2, n3⟩ := hXb.c2
      have h00 : 0 < nr := h1
      have h01 : (0 : Int) < (nr : Int) := by omega
      have hfq := HBW.out.trans (hdq.mono HBW.out.size)
      have hid : Below (wr.alloc (.cells #[.int .i64 y.v, .slice y.a y.n y.c] 42)).heap.size (wr.alloc (.cells #[.int .i64 y.v, .slice y.a y.n y.c] 42)) (wr.alloc (.cells #[.int .i64 y.v, .slice y.a y.n y.c] 42)).drew := Below.drew (Below.refl _ _)
      have hend : ∀ w4, Below (wr.alloc (.cells #[.int .i64 y.v, .slice y.a y.n y.c] 42)).drew.heap.size (wr.alloc (.cells #[.int .i64 y.v, .slice y.a y.n y.c] 42)).drew w4 → Below w1.heap.size w1 w4 := fun w4 h4 => (hb3.trans (hdq.mono hz3)).trans (h4.mono (by have := hdq.size; omega))
      have HEND := hide hend
      clear hend
      by_cases hC0 : C = false
      · subst hC0
        have hC : (false && decide (y.v = v0) && okStart v0 ((hs.map (·.v)).drop (k + 1)) (r.drop (k + 1))) = false := rfl
        have HC := hide hC
        clear hC
        obtain ⟨S', hS'⟩ : ∃ S' : World → Prop, S' = fun w' => w'.cell? ⟨gx, 0, none⟩ = some (.int .i64 y.v) ∧ w'.cell? ⟨gx, 1, none⟩ = some (.slice y.a y.n y.c) := ⟨_, rfl⟩
        have HSE : Hid (∀ w', S' w' → w'.cell? ⟨gx, 0, none⟩ = some (.int .i64 y.v) ∧ w'.cell? ⟨gx, 1, none⟩ = some (.slice y.a y.n y.c)) := hide (fun w' h => by rw [hS'] at h; exact h)
        have HSJ : Hid (∀ w4, Below (wr.alloc (.cells #[.int .i64 y.v, .slice y.a y.n y.c] 42)).heap.size (wr.alloc (.cells #[.int .i64 y.v, .slice y.a y.n y.c] 42)) w4 → S' w4) := hide (fun w4 h4 => by rw [hS']; exact ⟨(HSI.out w4 h4).1, (HSI.out w4 h4).2.1⟩)
        clear hS'
        go_wp2
        refine wp_region_fan [0] [1, 2, 3] [4, 5, 6, 7, 8, 9, 10] [11] S' (by kernel_rfl) (by kernel_rfl) (HSJ.out _ hid) ?_
        simp only [pickL, List.filterMap_cons, List.filterMap_nil, List.getElem?_cons_succ, List.getElem?_cons_zero]
        iterate 1
          apply headK_step (by rfl)
          · intro w' hw'
            obtain ⟨s0, s1⟩ := HSE.out w' hw'
            go_simp
            rfl
          intro a' ha'
          simp only [Act.put, List.setIfInBounds_toArray, List.set_cons_succ, List.set_cons_zero] at ha'
          subst ha'
        refine headK_nil ?_
        rw [midF]
        intro K0 hK0
        have HK0 := hide hK0
        clear hK0
        go_simp
        go_at_call 49
        refine (HCK.out _ hfq).mono ?_
        rintro vv w4 ⟨rfl, hb4⟩
        have hB4 := hid.trans (hb4.mono hid.size)
        refine HK0.out _ _ (HSJ.out w4 hB4) ?_
        clear HK0
        iterate 2
          rw [midF]
          intro K0 hK0
          have HK0 := hide hK0
          clear hK0
          go_simp
          refine HK0.out _ _ (HSJ.out w4 hB4) ?_
          clear HK0
        rw [midF]
        iterate 7
          apply headK_skip (by rfl)
          intro a' ha'
          simp only [Act.put, List.setIfInBounds_toArray, List.set_cons_succ, List.set_cons_zero] at ha'
          subst ha'
        refine headK_nil ?_
        go_wp2
        refine NoPanic.normal ?_
        have hC := HC.out
        go_wp2
        go_ret2
        have hBs : Bs = false := by rw [← HOK.out, hC]
        have hRr := HR.out
        rw [hBs, if_pos rfl] at hRr
        simp only [Prod.mk.injEq] at hRr
        exact ⟨none, 0, 0, [], by rw [← hRr.1]; rfl, by rw [← hRr.2]; rfl, Own.none _ _ _, by rw [← hRr.2]; exact PsAt.nil _ _ _, hB1.trans ((HEND.out w4 hb4).mono hz1)⟩
      have hC1 : C = true := by cases C with | true => rfl | false => exact absurd rfl hC0
      subst hC1
      clear hC0
      by_cases hvv : y.v = v0
      · have v1 : (y.v == v0) = true := by simpa using hvv
        have v2 : (y.v != v0) = false := by simpa using hvv
        have hok' : okStart v0 ((hs.map (·.v)).drop (k + 1)) (r.drop (k + 1)) = Bs := by rw [← HOK.out, decide_eq_true hvv]; rfl
        have HOK2 := hide hok'
        clear hok' hvv
        go_wp2
        go_region_held3 (fun w' => w'.cell? ⟨gx, 0, none⟩ = some (.int .i64 y.v) ∧ w'.cell? ⟨gx, 1, none⟩ = some (.slice y.a y.n y.c) ∧ w'.cell? ⟨b1, off1, none⟩ = some (.int .i64 v0)) (go_keep)
          ((go_at_call 49; go_must ((with_reducible refine (HCK.out _ hfq).mono ?_); rintro vv w4 ⟨rfl, hb4⟩; obtain ⟨t0, t1, t2⟩ := HSI.out w4 (hid.trans (hb4.mono hid.size)))))
        go_wp2
        go_roundw
        case rel => exact ⟨k + 1, by go_num, by omega, HEND.out w4 hb4, HOK2.out⟩
        case measure => simp [intOf] <;> omega
      · have v1 : (y.v == v0) = false := by simpa using hvv
        have v2 : (y.v != v0) = true := by simpa using hvv
        have hC : (true && decide (y.v = v0) && okStart v0 ((hs.map (·.v)).drop (k + 1)) (r.drop (k + 1))) = false := by rw [decide_eq_false hvv]; rfl
        have HC := hide hC
        clear hC hvv
        go_wp2
        go_region_held3 (fun w' => w'.cell? ⟨gx, 0, none⟩ = some (.int .i64 y.v) ∧ w'.cell? ⟨gx, 1, none⟩ = some (.slice y.a y.n y.c) ∧ w'.cell? ⟨b1, off1, none⟩ = some (.int .i64 v0)) (go_keep)
          ((go_at_call 49; go_must ((with_reducible refine (HCK.out _ hfq).mono ?_); rintro vv w4 ⟨rfl, hb4⟩; obtain ⟨t0, t1, t2⟩ := HSI.out w4 (hid.trans (hb4.mono hid.size)))))
        have hC := HC.out
        go_wp2
        go_ret2
        have hBs : Bs = false := by rw [← HOK.out, hC]
        have hRr := HR.out
        rw [hBs, if_pos rfl] at hRr
        simp only [Prod.mk.injEq] at hRr
        exact ⟨none, 0, 0, [], by rw [← hRr.1]; rfl, by rw [← hRr.2]; rfl, Own.none _ _ _, by rw [← hRr.2]; exact PsAt.nil _ _ _, hB1.trans ((HEND.out w4 hb4).mono hz1)⟩
    · have hkn : k = nr := by omega
      subst hkn
      have hBt : Bs = true := by
        rw [← hok, List.drop_of_length_le (by rw [List.length_map, ← HSN.out]; exact Nat.le_refl _)]
        rfl
      have hall := HBS.out
      rw [hBt] at hall
      have hAll := okStart_all hall
      have hPs : PsAt (fun q => QP q ∧ q < w.heap.size) w v0 hs r := ⟨(HP.out).1, fun i y L e1 e2 => ⟨(hAll i y L e1 e2).1, ((HP.out).2 i y L e1 e2).1⟩⟩
      have hAP : AllP v0 r := fun L hL => by
        obtain ⟨i, hi⟩ := List.getElem?_of_mem hL
        have hlt' := (List.getElem?_eq_some_iff.1 hi).1
        exact (hAll i (hs[i]'(by rw [(HP.out).1]; exact hlt')) L (List.getElem?_eq_getElem _) hi).2
      have hRr := HR.out
      rw [hBt, if_neg (by simp)] at hRr
      have HRUN := hide (RunSymQ_calls QP v0 a1 U.length c1 U rfl sa k sc hs r HSN.out h1 wr (hown1.at_.belowN hb3) (hst.belowN hBw) ((hPs.belowN hBw).imp (fun q hq => Nat.lt_of_lt_of_le hq.2 hBw.size)) hAP HIN.out (by omega) (by omega) EE RR hRr)
      clear hall hAll hPs hAP hRr hBt hok
      go_wp2_with (go_at_call 42; go_must ((with_reducible refine (HRUN.out).mono ?_); rintro vv w9 ⟨a9, n9, c9, hs9, rfl, hn9, hown9, hP9, hb9⟩; have HN9 := hide hn9; clear hn9))
      go_ret2
      exact ⟨a9, n9, c9, hs9, rfl, HN9.out, hown9.mono hBw.size, hP9.imp (fun q hq => hq.imp id (fun h => Nat.le_trans hBw.size h)), hBw.trans (hb9.mono hBw.size)⟩
theorem AfterQ_calls (regs : Int) (a : Option Addr) (c : Nat) (l : List OpD) (sa : Option Addr) (sn sc : Nat) (hs : List PoH) (r : List (List Tm)) (hsn : sn = hs.length) (QP : Nat → Prop) (w : World) (h : At w a l) (hl : l.length ≤ 1000000) (hst : At w sa hs) (hP : PsV (fun q => QP q ∧ q < w.heap.size) w hs r) (EE : Int) (RR : List (List Tm)) (hR : afterS regs l (hs.map (·.v)) r = (EE, RR)) :
    Calls Tryz.prog 19 #[.agg #[.int .i64 regs, .slice a l.length c], .slice sa sn sc] w (PolysOutQ QP ((hs.map (·.v)).headD 0) RR EE w) := by
  unfold afterS at hR
  by_cases hc : checkS regs l = 0
  · rw [if_neg (by simpa using hc)] at hR
    obtain ⟨f, rfl, g⟩ := good_of_check hc
    obtain ⟨nr, rfl⟩ : ∃ n : Nat, regs = n := ⟨regs.toNat, by have := g.r1; omega⟩
    rw [unrS_good g] at hR
    have hrl : r.length = sn := by rw [← hP.1, hsn]
    rw [hrl] at hR
    by_cases hd : (sn : Int) ≠ (nr : Int)
    · rw [if_pos hd] at hR
      simp only [Prod.mk.injEq] at hR
      rw [← hR.1, ← hR.2]
      exact AfterQ_dims nr a c _ f rfl g sa sn sc (by omega) QP w h _
    · rw [if_neg hd] at hR
      obtain rfl : sn = nr := by omega
      exact AfterQ_good sn a c _ f rfl g sa sc hs r hsn QP w h hst hP _ rfl EE RR hR
  · rw [if_pos hc] at hR
    simp only [Prod.mk.injEq] at hR
    rw [← hR.2]
    exact AfterQ_bad regs a c l sa sn sc QP w h hl hc EE _ hR.1
end Go.Proofs.YtcamcnahkdiefaaGreat

/- Chapter 24: numbers as polynomials (model.consts). -/
namespace Go.Proofs.YtcamcnahkdiefaaGreat
set_option linter.unusedVariables false
set_option linter.unusedSimpArgs false
open Go.RowKit
theorem const_zero {n : Nat} (h : n ≤ 64) : mkL (n : Int) (constT (n : Int) 0) = [] := by
  unfold mkL
  rw [if_pos (const_facts h 0).1, sortT]
  simp [constT, nzT]
def consS (va : Int) (cs : List UInt64) : List (List Tm) := cs.map fun c => mkL va (constT va c)
theorem consS_zero {n : Nat} (h : n ≤ 64) (k : Nat) : consS (n : Int) (List.replicate k 0) = List.replicate k [] := by
  unfold consS
  rw [List.map_replicate, const_zero h]
set_option maxRecDepth 100000 in
set_option maxHeartbeats 3200000 in
theorem Consts_calls (vn : Nat) (h64 : vn ≤ 64) (cs : List UInt64) (a : Option Addr) (n c : Nat) (hn : n = cs.length) (w : World) (h : At w a cs) (hl : n ≤ 1000000) :
    Calls Tryz.prog 61 #[.int .i64 (vn : Int), .slice a n c] w fun e w' => ∃ a' c' hs, e = .returned (.slice a' n c') ∧ Own w' w.heap.size 42 a' c' hs ∧ hs.length = n ∧ PsAt (fun q => w.heap.size ≤ q) w' (vn : Int) hs (consS (vn : Int) cs) ∧ Below w.heap.size w w' := by
  have HN := hide hn
  clear hn
  go_enter Tryz.func61, Tryz.ntmps61
  go_wp2
  go_loopw [5, 12] (fun rv iv wr => ∃ (k : Nat) (a' : Option Addr) (c' : Nat) (hs : List PoH), rv = .slice a' k c' ∧ iv = .int .i64 k ∧ k ≤ n ∧ Own wr w.heap.size 42 a' c' hs ∧ k = hs.length ∧ PsAt (fun q => a'.map (·.block) ≠ some q ∧ w.heap.size ≤ q) wr (vn : Int) hs (consS (vn : Int) (cs.take k)) ∧ Below w.heap.size w wr) (fun _ iv _ => n - (intOf iv).toNat)
  case atStart => exact ⟨0, none, 0, [], rfl, rfl, by omega, Own.none _ _ _, rfl, PsAt.nil _ _ _, Below.refl _ _⟩
  case round =>
    obtain ⟨k, a', c', hs, rfl, rfl, hk, hown, hkl, hP, hb⟩ := hrel
    have hz := hb.size
    have hP4 := hP.bounded
    by_cases hlt : k < n
    · obtain ⟨b1, off1, x, rfl, hx, x0⟩ := h.getU hb (k := k) (by have := HN.out; omega)
      obtain ⟨k1, k2, k3⟩ := const_facts h64 x
      obtain ⟨L, hL⟩ : ∃ L, mkL (vn : Int) (constT (vn : Int) x) = L := ⟨_, rfl⟩
      have HTK := hide (show consS (vn : Int) (cs.take (k + 1)) = consS (vn : Int) (cs.take k) ++ [L] by rw [List.take_add_one, hx.out]; unfold consS; rw [List.map_append, ← hL]; rfl)
      have HC := hide (PConst_calls (vn : Int) x wr (vn : Int) L 0 k2 hL k1)
      have HKL := hide hkl
      clear k1 k2 k3 hL hkl hP hx
      obtain ⟨w3, rfl⟩ : ∃ w3 : World, w3 = wr := ⟨_, rfl⟩
      go_wp2_with (first
        | (at_builtin; go_must (have hgd := hT9; refine wpList_push tyPo hown10 ⟨(vn : Int), a9, n9, c9⟩ rfl rfl rfl rfl rfl (by simp) HKL.out hz10 (by omega) ?_; intro a4 c4 w4 hown6 hg6 hcs6))
        | (go_at_call 111; go_must ((with_reducible refine (HC.out).mono ?_); rintro vv w9 ⟨a9, n9, c9, rfl, hT9, hb9⟩; have hb10 := hb9.trans ((below_box w9 (.cells #[.int .i64 (vn : Int), .slice a9 n9 c9] 42)).mono hb9.size); have hown10 := hown.belowN hb10; have hz10 : w.heap.size ≤ (w9.alloc (.cells #[.int .i64 (vn : Int), .slice a9 n9 c9] 42)).heap.size := (by have := hb10.size; omega); have hN10 := Blk.new w9 42 #[.int .i64 (vn : Int), .slice a9 n9 c9]; obtain ⟨n0, n1, n2, n3⟩ := hN10.c2)))
      have hb12 := below_push (hb.trans (hb10.mono hz)) hown10 hg6 hz10
      have hz9 := hb9.size
      have hP6 := ((hP4.belowN hb10).grown hg6 (fun q hq h => h.1.1 hq)).imp (Q := fun q => a4.map (·.block) ≠ some q ∧ w.heap.size ≤ q) (fun q hq => ⟨ne_push hcs6 hq.1.1 (by have := hb10.size; omega), hq.1.2⟩)
      have hT10 := ((hT9.bounded.belowN (below_box w9 (.cells #[.int .i64 (vn : Int), .slice a9 n9 c9] 42))).grown hg6 (fun q hq h => by have := (hown.blk q hq).2; omega)).imp (Q := fun q => a4.map (·.block) ≠ some q ∧ w.heap.size ≤ q) (fun q hq => ⟨ne_push hcs6 (fun e => by have := (hown.blk q e).2; omega) (by rw [World.size_alloc]; omega), by have := hq.1; omega⟩)
      go_roundw
      case rel =>
        refine ⟨k + 1, a4, c4, hs ++ [⟨(vn : Int), a9, n9, c9⟩], by go_num, by go_num, by omega, hown6, by have := HKL.out; simp; omega, ?_, hb12⟩
        rw [HTK.out]
        exact hP6.push rfl hT10
      case measure => simp [intOf] <;> omega
    · have hkn : k = n := by omega
      subst hkn
      rw [List.take_of_length_le (by have := HN.out; omega)] at hP
      go_wp2
      go_ret
      exact ⟨a', c', hs, rfl, hown, hkl.symm, hP.imp (fun q hq => hq.2), hb⟩
end Go.Proofs.YtcamcnahkdiefaaGreat

/- Chapter 24: all registers of a program, as polynomials (model.Composite's closure), and what is wrong with programs (model.check). -/
namespace Go.Proofs.YtcamcnahkdiefaaGreat
set_option linter.unusedVariables false
set_option linter.unusedSimpArgs false
open Go.RowKit
structure FullAt (QP : Nat → Prop) (w : World) (g2 g3 g4 : Nat) (na fa : Option Addr) (nn fn nc fc : Nat) (hn hf : List PoH) (vn : Nat) (now fixed : List (List Tm)) : Prop where
  n : Blk w g2 27 #[.slice na nn nc]
  f : Blk w g3 27 #[.slice fa fn fc]
  v : Blk w g4 3 #[.int .i64 (vn : Int)]
  an : At w na hn
  af : At w fa hf
  pn : PsAt (fun q => QP q ∧ q < w.heap.size) w (vn : Int) hn now
  pf : PsAt (fun q => QP q ∧ q < w.heap.size) w (vn : Int) hf fixed
theorem FullAt.belowN {QP : Nat → Prop} {w w' : World} {g2 g3 g4 : Nat} {na fa : Option Addr} {nn fn nc fc : Nat} {hn hf : List PoH} {vn : Nat} {now fixed : List (List Tm)} (h : FullAt QP w g2 g3 g4 na fa nn fn nc fc hn hf vn now fixed) (hb : Below w.heap.size w w') : FullAt QP w' g2 g3 g4 na fa nn fn nc fc hn hf vn now fixed :=
  ⟨h.n.belowN hb, h.f.belowN hb, h.v.belowN hb, h.an.belowN hb, h.af.belowN hb, (h.pn.belowN hb).imp (fun q hq => ⟨hq.1, Nat.lt_of_lt_of_le hq.2 hb.size⟩), (h.pf.belowN hb).imp (fun q hq => ⟨hq.1, Nat.lt_of_lt_of_le hq.2 hb.size⟩)⟩
theorem wrap_id64 {k : Int} (h1 : 0 ≤ k) (h2 : k ≤ 1000000) : IntKind.i64.wrap k = k := by
  simp only [IntKind.wrap, IntKind.bits, IntKind.signed]
  simp
  omega
set_option maxRecDepth 100000 in
set_option maxHeartbeats 6400000 in
theorem FullM_calls (QP : Nat → Prop) (g2 g3 g4 : Nat) (na fa ma : Option Addr) (nn fn mn nc fc mc : Nat) (hn hf hm : List PoH) (vn : Nat) (h64 : vn ≤ 64) (now fixed more : List (List Tm)) (rg : Nat) (pa : Option Addr) (pn pc : Nat) (hnn : nn = hn.length) (hfn : fn = hf.length) (hmn : mn = hm.length) (k : Nat) (hk : nn + fn + mn + k = rg) (h164 : rg ≤ 64)
    (w : World) (h : FullAt QP w g2 g3 g4 na fa nn fn nc fc hn hf vn now fixed) (hM : At w ma hm) (hPM : PsAt (fun q => QP q ∧ q < w.heap.size) w (vn : Int) hm more) :
    Calls Tryz.prog 60 #[.agg #[.int .i64 (rg : Int), .slice pa pn pc], .slice ma mn mc, .pointer (some ⟨g2, 0, none⟩), .pointer (some ⟨g3, 0, none⟩), .pointer (some ⟨g4, 0, none⟩)] w
      fun e w' => ∃ a' c' hs, e = .returned (.slice a' rg c') ∧ Own w' w.heap.size 42 a' c' hs ∧ hs.length = rg ∧ PsAt (fun q => QP q ∨ w.heap.size ≤ q) w' (vn : Int) hs (now ++ fixed ++ more ++ List.replicate k []) ∧ Below w.heap.size w w' := by
  have hb0 := below_box w (.cells #[.int .i64 (rg : Int), .slice pa pn pc] 24)
  have hX := Blk.new w 24 #[.int .i64 (rg : Int), .slice pa pn pc]
  obtain ⟨p0, p1, p2, p3⟩ := hX.c2
  obtain ⟨S', hS'⟩ : ∃ S' : World → Prop, S' = fun w' => w'.cell? ⟨g2, 0, none⟩ = some (.slice na nn nc) ∧ w'.cell? ⟨g3, 0, none⟩ = some (.slice fa fn fc) ∧ w'.cell? ⟨g4, 0, none⟩ = some (.int .i64 (vn : Int)) ∧ w'.cell? ⟨w.heap.size, 0, none⟩ = some (.int .i64 (rg : Int)) := ⟨_, rfl⟩
  have HSE : Hid (∀ w', S' w' → w'.cell? ⟨g2, 0, none⟩ = some (.slice na nn nc) ∧ w'.cell? ⟨g3, 0, none⟩ = some (.slice fa fn fc) ∧ w'.cell? ⟨g4, 0, none⟩ = some (.int .i64 (vn : Int)) ∧ w'.cell? ⟨w.heap.size, 0, none⟩ = some (.int .i64 (rg : Int))) := hide (fun w' h => by rw [hS'] at h; exact h)
  obtain ⟨w1, hw1⟩ : ∃ w1, w1 = w.alloc (.cells #[.int .i64 (rg : Int), .slice pa pn pc] 24) := ⟨_, rfl⟩
  rw [← hw1] at hb0 hX
  have HSI : Hid (∀ w4, Below w1.heap.size w1 w4 → S' w4) := hide (fun w4 h4 => by
    rw [hS']
    have h1 := (h.belowN hb0).belowN h4
    exact ⟨h1.n.c1.1, h1.f.c1.1, h1.v.c1.1, (hX.belowN h4).c2.1⟩)
  have H := hide h
  have HM := hide hM
  have HPM := hide hPM
  have HN := hide hnn
  have HF := hide hfn
  have HMN := hide hmn
  have HK := hide hk
  obtain ⟨NN, hNN⟩ : ∃ NN, 0 + nn + fn + mn = NN := ⟨_, rfl⟩
  have HNN := hide hNN
  have hNk : (rg : Int) - (NN : Int) = (k : Int) := by omega
  have hNr : NN ≤ rg := by omega
  have hnl : nn ≤ 64 ∧ fn ≤ 64 ∧ mn ≤ 64 := by omega
  clear hS' h hM hPM hnn hfn hmn hk hNN
  have hdw : Below w1.heap.size w1 w1.drew := Below.drew (Below.refl _ _)
  go_enter Tryz.func60, Tryz.ntmps60
  go_wp2
  rw [← hw1]
  clear hw1
  refine wp_region_fan [1, 3, 5] [0, 2, 4, 6] [] [7] S' (by kernel_rfl) (by kernel_rfl) (HSI.out _ hdw) ?_
  simp only [pickL, List.filterMap_cons, List.filterMap_nil, List.getElem?_cons_succ, List.getElem?_cons_zero]
  iterate 3
    apply headK_step (by rfl)
    · intro w' hw'
      obtain ⟨s0, s1, s2, s3⟩ := HSE.out w' hw'
      go_simp
      rfl
    intro a' ha'
    simp only [Act.put, List.setIfInBounds_toArray, List.set_cons_succ, List.set_cons_zero] at ha'
    subst ha'
  refine headK_nil ?_
  rw [midF]
  intro K0 hK0
  have HK0 := hide hK0
  clear hK0
  go_simp
  have hB2 : Below w1.heap.size w1 (w1.alloc (.cells #[] 42)).drew := Below.drew (below_box w1 _)
  have hO2 : Own (w1.alloc (.cells #[] 42)).drew w1.heap.size 42 (some ⟨w1.heap.size, 0, none⟩) 0 ([] : List PoH) := (Own.new w1 (Nat.le_refl _) 42 PoH).belowN (Below.drew (Below.refl _ _))
  refine HK0.out _ _ (HSI.out _ hB2) ?_
  clear HK0
  rw [midF]
  intro K0 hK0
  have HK0 := hide hK0
  clear hK0
  refine step_pushAll (n := 0) (n2 := nn) tyPo hO2 (H.out.an.belowN (hb0.trans (hB2.mono hb0.size))) rfl rfl rfl rfl rfl HN.out hB2.size (by omega) (by omega) ?_
  intro a3 c3 w3 hO3 hg3 hc3
  have hB3 := below_push hB2 hO2 hg3 hB2.size
  refine HK0.out _ _ (HSI.out _ hB3) ?_
  clear HK0
  rw [midF]
  intro K0 hK0
  have HK0 := hide hK0
  clear hK0
  have HL3 : Hid (0 + nn = ([] ++ hn).length) := hide (by rw [List.nil_append, ← HN.out, Nat.zero_add])
  refine step_pushAll tyPo hO3 (H.out.af.belowN (hb0.trans (hB3.mono hb0.size))) rfl rfl rfl rfl HL3.out HF.out hB3.size (by omega) (by omega) ?_
  intro a4 c4 w4 hO4 hg4 hc4
  have hB4 := below_push hB3 hO3 hg4 hB3.size
  refine HK0.out _ _ (HSI.out _ hB4) ?_
  clear HK0
  rw [midF]
  intro K0 hK0
  have HK0 := hide hK0
  clear hK0
  have HL4 : Hid (0 + nn + fn = ([] ++ hn ++ hf).length) := hide (by rw [List.length_append, ← HL3.out, ← HF.out])
  refine step_pushAll tyPo hO4 (HM.out.belowN (hb0.trans (hB4.mono hb0.size))) rfl rfl rfl rfl HL4.out HMN.out hB4.size (by omega) (by omega) ?_
  intro a5 c5 w5 hO5 hg5 hc5
  have hB5 := below_push hB4 hO4 hg5 hB4.size
  rw [HNN.out]
  refine HK0.out _ _ (HSI.out _ hB5) ?_
  clear HK0
  rw [midF]
  refine headK_nil ?_
  have hz5 := hB5.size
  have HL5 : Hid (NN = ([] ++ hn ++ hf ++ hm).length) := hide (by rw [List.length_append, ← HL4.out, ← HMN.out, HNN.out])
  have hdr : Below w5.heap.size w5 w5.drew := Below.drew (Below.refl _ _)
  have hB6 := hB5.trans (hdr.mono hz5)
  have hmk := mkU k (k : Int) rfl (by omega)
  have hwk : IntKind.i64.wrap (k : Int) = (k : Int) := wrap_id64 (by omega) (by omega)
  have HCO := hide (fun (W : World) (g : Nat) (hW : At W (some ⟨g, 0, none⟩) (List.replicate k (0 : UInt64))) => Consts_calls vn h64 (List.replicate k 0) (some ⟨g, 0, none⟩) k k (by simp) W hW (by omega))
  have hO6 := hO5.belowN hdr
  clear hc3 hc4 hc5 hg3 hg4 hg5 hO3 hO4 hO2 hB2 hB3 hB4
  go_wp2
  refine NoPanic.normal ?_
  go_wp2
  refine wp_region_fan [0, 1, 2, 3, 4, 5, 6] [7, 8, 9] [] [10] S' (by kernel_rfl) (by kernel_rfl) (HSI.out _ hB6) ?_
  simp only [pickL, List.filterMap_cons, List.filterMap_nil, List.getElem?_cons_succ, List.getElem?_cons_zero]
  iterate 7
    apply headK_step (by rfl)
    · intro w' hw'
      obtain ⟨s0, s1, s2, s3⟩ := HSE.out w' hw'
      go_simp
      rfl
    intro a' ha'
    simp only [Act.put, List.setIfInBounds_toArray, List.set_cons_succ, List.set_cons_zero] at ha'
    subst ha'
  refine headK_nil ?_
  rw [midF]
  intro K0 hK0
  have HK0 := hide hK0
  clear hK0
  go_simp
  have hbx : Below w5.heap.size w5 (w5.alloc (.cells (zerosU k) 50)).drew := Below.drew (below_box w5 _)
  have hB7 := hB5.trans (hbx.mono hz5)
  have hO7 := hO5.belowN hbx
  have hZ7 := ((ownZ (B := w5.heap.size) w5 (Nat.le_refl _) k (by omega)).belowN (Below.drew (Below.refl _ _))).at_
  refine HK0.out _ _ (HSI.out _ hB7) ?_
  clear HK0
  rw [midF]
  intro K0 hK0
  have HK0 := hide hK0
  clear hK0
  go_simp
  go_at_call 61
  refine (HCO.out _ _ hZ7).mono ?_
  rintro e w8 ⟨a8, c8, h8, rfl, hO8, hl8, hP8, hb8⟩
  have hB8 := hB7.trans (hb8.mono hB7.size)
  refine HK0.out _ _ (HSI.out _ hB8) ?_
  clear HK0
  rw [midF]
  intro K0 hK0
  have HK0 := hide hK0
  clear hK0
  have HL8 := hide hl8.symm
  refine step_pushAll tyPo (hO7.belowN hb8) hO8.at_ rfl rfl rfl rfl HL5.out HL8.out hB8.size (by omega) (by omega) ?_
  intro a9 c9 w9 hO9 hg9 hc9
  have hB9 := below_push hB8 (hO7.belowN hb8) hg9 hB8.size
  refine HK0.out _ _ (HSI.out _ hB9) ?_
  clear HK0
  rw [midF]
  refine headK_nil ?_
  go_wp2
  refine NoPanic.normal ?_
  go_wp2
  go_ret
  have hbF := hb0.trans (hB9.mono hb0.size)
  have hP9 := hP8.grown hg9 (fun g hg hq => by
    have h1 := (hO5.blk g hg).2
    have h2 := hbx.size
    omega)
  rw [consS_zero h64] at hP9
  have e1 := (H.out.pn.belowN hbF).imp (Q := fun q => QP q ∨ w.heap.size ≤ q) (fun q hq => .inl hq.1)
  have e2 := (H.out.pf.belowN hbF).imp (Q := fun q => QP q ∨ w.heap.size ≤ q) (fun q hq => .inl hq.1)
  have e3 := (HPM.out.belowN hbF).imp (Q := fun q => QP q ∨ w.heap.size ≤ q) (fun q hq => .inl hq.1)
  have e4 := hP9.imp (Q := fun q => QP q ∨ w.heap.size ≤ q) (fun q hq => .inr (by have h1 := hb0.size; have h2 := hB6.size; have h3 := hbx.size; omega))
  refine ⟨a9, c9, [] ++ hn ++ hf ++ hm ++ h8, by rw [show rg = NN + k by omega]; rfl, hO9.mono hb0.size, ?_, ?_, hbF⟩
  · rw [List.length_append, ← HL5.out, hl8]; omega
  · rw [List.nil_append]; exact ((e1.app e2).app e3).app e4
set_option maxRecDepth 100000 in
set_option maxHeartbeats 3200000 in
theorem Check24_calls (p q : PrD) (x : Int) (w : World) (h : At w p.a p.l) (hl : p.l.length ≤ 1000000) (h' : At w q.a q.l) (hl' : q.l.length ≤ 1000000) (hx : -9223372036854775808 ≤ x ∧ x ≤ 9223372036854775807) (E : Int) (hE : (⟨p, q, x, List.replicate 65 0⟩ : ChD).bad = E) (h0 : E ≠ 0) :
    Calls Tryz.prog 59 #[.agg #[.int .i64 p.regs, .slice p.a p.l.length p.c], .agg #[.int .i64 q.regs, .slice q.a q.l.length q.c], .int .i64 x] w fun e w' => e = .returned (.int .i64 E) ∧ Below w.heap.size w w' := by
  obtain ⟨hX, hY, hb0, hz0⟩ := two_boxes w 24 24 #[.int .i64 p.regs, .slice p.a p.l.length p.c] #[.int .i64 q.regs, .slice q.a q.l.length q.c]
  have HN := hide (fun (W : World) (g : Nat) (hW : Below w.heap.size w W) => NewBad_calls ⟨p, q, x, List.replicate 65 0⟩ (some ⟨g, 0, none⟩) 65 W (h.belowN hW) hl (h'.belowN hW) hl' hx (by show (List.replicate 65 (0 : UInt64)).length ≤ _; rw [List.length_replicate]; decide) E hE h0)
  have e65 : (List.replicate 65 (0 : UInt64)).length = 65 := List.length_replicate
  rw [e65] at HN
  obtain ⟨w1, hw1⟩ : ∃ w1, w1 = (w.alloc (.cells #[.int .i64 p.regs, .slice p.a p.l.length p.c] 24)).alloc (.cells #[.int .i64 q.regs, .slice q.a q.l.length q.c] 24) := ⟨_, rfl⟩
  rw [← hw1] at hX hY hb0
  obtain ⟨p0, p1, p2, p3⟩ := hX.c2
  obtain ⟨p4, p5, p6, p7⟩ := hY.c2
  obtain ⟨S', hS'⟩ : ∃ S' : World → Prop, S' = fun w' => (w'.cell? ⟨w.heap.size, 0, none⟩ = some (.int .i64 p.regs) ∧ w'.cell? ⟨w.heap.size, 1, none⟩ = some (.slice p.a p.l.length p.c)) ∧ w'.cell? ⟨w.heap.size + 1, 0, none⟩ = some (.int .i64 q.regs) ∧ w'.cell? ⟨w.heap.size + 1, 1, none⟩ = some (.slice q.a q.l.length q.c) := ⟨_, rfl⟩
  have HSE : Hid (∀ w', S' w' → (w'.cell? ⟨w.heap.size, 0, none⟩ = some (.int .i64 p.regs) ∧ w'.cell? ⟨w.heap.size, 1, none⟩ = some (.slice p.a p.l.length p.c)) ∧ w'.cell? ⟨w.heap.size + 1, 0, none⟩ = some (.int .i64 q.regs) ∧ w'.cell? ⟨w.heap.size + 1, 1, none⟩ = some (.slice q.a q.l.length q.c)) := hide (fun w' h => by rw [hS'] at h; exact h)
  have HSI : Hid (∀ w4, Below w1.heap.size w1 w4 → S' w4) := hide (fun w4 h4 => by
    rw [hS']
    have a1 := (hX.belowN h4).c2
    have a2 := (hY.belowN h4).c2
    exact ⟨⟨a1.1, a1.2.1⟩, a2.1, a2.2.1⟩)
  have hdw : Below w1.heap.size w1 w1.drew := Below.drew (Below.refl _ _)
  have hmk := mkU 65 65 rfl (by decide)
  have hz1 := hb0.size
  clear hS' hE e65
  go_enter Tryz.func59, Tryz.ntmps59
  go_wp2
  rw [← hw1]
  clear hw1
  refine wp_region_fan [0, 1, 2] [3, 4, 5] [6, 7] [8, 9] S' (by kernel_rfl) (by kernel_rfl) (HSI.out _ hdw) ?_
  simp only [pickL, List.filterMap_cons, List.filterMap_nil, List.getElem?_cons_succ, List.getElem?_cons_zero]
  iterate 3
    apply headK_step (by rfl)
    · intro w' hw'
      obtain ⟨⟨s0, s1⟩, s2, s3⟩ := HSE.out w' hw'
      go_simp
      rfl
    intro a' ha'
    simp only [Act.put, List.setIfInBounds_toArray, List.set_cons_succ, List.set_cons_zero] at ha'
    subst ha'
  refine headK_nil ?_
  rw [midF]
  intro K0 hK0
  have HK0 := hide hK0
  clear hK0
  go_simp
  have hB2 : Below w1.heap.size w1 (w1.alloc (.cells (zerosU 65) 50)).drew := Below.drew (below_box w1 _)
  refine HK0.out _ _ (HSI.out _ hB2) ?_
  clear HK0
  rw [midF]
  intro K0 hK0
  have HK0 := hide hK0
  clear hK0
  go_simp
  go_at_call 36
  refine (HN.out _ _ (hb0.trans (hB2.mono hz1))).mono ?_
  rintro e w2 ⟨rfl, hb2⟩
  have hB3 := hB2.trans (hb2.mono hB2.size)
  refine HK0.out _ _ (HSI.out _ hB3) ?_
  clear HK0
  rw [midF]
  intro K0 hK0
  have HK0 := hide hK0
  clear hK0
  go_simp
  refine HK0.out _ _ (HSI.out _ hB3) ?_
  clear HK0 HSI HSE
  rw [midF]
  iterate 2
    apply headK_step (by rfl)
    · intro w' _
      go_simp
      rfl
    intro a' ha'
    simp only [Act.put, List.setIfInBounds_toArray, List.set_cons_succ, List.set_cons_zero] at ha'
    subst ha'
  refine headK_nil ?_
  go_wp2
  refine NoPanic.normal ?_
  go_wp2
  go_ret
  exact ⟨rfl, hb0.trans (hB3.mono hz1)⟩
end Go.Proofs.YtcamcnahkdiefaaGreat

/- Chapter 15: the law SymbolAfter, walked. -/
namespace Go.Proofs.YtcamcnahkdiefaaGreat
set_option linter.unusedVariables false
set_option linter.unusedSimpArgs false
open Go.RowKit
theorem afterS_all {regs : Int} {l : List OpD} {hs : List PoH} {r : List (List Tm)} (hlen : hs.length = r.length) {E : Int} {R : List (List Tm)} (h : afterS regs l (hs.map (·.v)) r = (E, R)) : AllP ((hs.map (·.v)).headD 0) R ∧ R.length ≤ r.length := by
  unfold afterS at h
  split at h
  · simp only [Prod.mk.injEq] at h
    rw [← h.2]; exact ⟨fun L hL => (by cases hL), by simp⟩
  rename_i hc
  split at h
  · simp only [Prod.mk.injEq] at h
    rw [← h.2]; exact ⟨fun L hL => (by cases hL), by simp⟩
  rename_i hd
  split at h
  · simp only [Prod.mk.injEq] at h
    rw [← h.2]; exact ⟨fun L hL => (by cases hL), by simp⟩
  rename_i hok
  have hok' : okStart ((hs.map (·.v)).headD 0) (hs.map (·.v)) r = true := by simpa using hok
  have hAll := okStart_all hok'
  have hA : AllP ((hs.map (·.v)).headD 0) r := fun L hL => by
    obtain ⟨i, hi⟩ := List.getElem?_of_mem hL
    have hlt' := (List.getElem?_eq_some_iff.1 hi).1
    exact (hAll i (hs[i]'(by rw [hlen]; exact hlt')) L (List.getElem?_eq_getElem _) hi).2
  obtain ⟨f, rfl, g⟩ := good_of_check (Decidable.not_not.1 hc)
  rw [unrS_good g] at h
  have hr := runS_len _ _ _ _ h
  refine ⟨runS_all _ _ _ _ (fun x hx => ?_) hA h, ?_⟩
  · have := (g.inR x hx).2.1
    have : (r.length : Int) = regs := Decidable.not_not.1 hd
    omega
  · by_cases hE : E = 0
    · rw [hr.1 hE]; exact Nat.le_refl _
    · rw [hr.2 hE]; exact Nat.zero_le _
end Go.Proofs.YtcamcnahkdiefaaGreat

/- Chapter 24: the document's Composite. -/
namespace Go.Proofs.YtcamcnahkdiefaaGreat
set_option linter.unusedVariables false
set_option linter.unusedSimpArgs false
open Go.RowKit
noncomputable def ChD.iterC (c : ChD) (xn vn : Nat) : Nat → Int × List (List Tm)
  | 0 => (0, (startP vn).take xn)
  | t + 1 => if (c.iterC xn vn t).1 ≠ 0 then c.iterC xn vn t else
      let s := runC c.p (vn : Int) (t : Int) (c.iterC xn vn t).2 ((startP vn).drop xn)
      (s.1, if s.1 = 0 then s.2.take xn else [])
noncomputable def ChD.compC (c : ChD) (xn vn l : Nat) : Int × List Tm :=
  if (c.iterC xn vn l).1 ≠ 0 then ((c.iterC xn vn l).1, []) else
    let s := runC c.q (vn : Int) (-1) (c.iterC xn vn l).2 ((startP vn).drop xn)
    (s.1, if s.1 = 0 then s.2.headD [] else [])
theorem PsAt.take {P : Nat → Prop} {w : World} {va : Int} {hs : List PoH} {r : List (List Tm)} (h : PsAt P w va hs r) (k : Nat) : PsAt P w va (hs.take k) (r.take k) := by
  refine ⟨by simp [h.1], fun i z M e1 e2 => ?_⟩
  rw [List.getElem?_take] at e1 e2
  split at e1
  · rw [if_pos (by assumption)] at e2
    exact h.2 i z M e1 e2
  · cases e1
theorem runC_len {p : PrD} {va t : Int} {now fixed R : List (List Tm)} (h : runC p va t now fixed = (0, R)) : R.length = (fullS p.regs va t now fixed).length := by
  unfold runC afterS at h
  split at h
  · rename_i h1
    injection h with h2 h3
    exact absurd h2 h1
  · split at h
    · cases h
    · split at h
      · cases h
      · exact (runS_len _ _ _ _ h).1 rfl
theorem PsAt.drop {P : Nat → Prop} {w : World} {va : Int} {hs : List PoH} {r : List (List Tm)} (h : PsAt P w va hs r) (k : Nat) : PsAt P w va (hs.drop k) (r.drop k) := by
  refine ⟨by simp [h.1], fun i z M e1 e2 => ?_⟩
  rw [List.getElem?_drop] at e1 e2
  exact h.2 _ z M e1 e2
theorem ChD.iterC_stay (c : ChD) (xn vn t : Nat) (h : (c.iterC xn vn t).1 ≠ 0) : ∀ k, c.iterC xn vn (t + k) = c.iterC xn vn t
  | 0 => rfl
  | k + 1 => by
    have ih := ChD.iterC_stay c xn vn t h k
    show (if (c.iterC xn vn (t + k)).1 ≠ 0 then c.iterC xn vn (t + k) else _) = _
    rw [ih, if_pos h]
theorem ChD.iterC_succ (c : ChD) (xn vn t : Nat) {E : Int} {R : List (List Tm)} (h : (c.iterC xn vn t).1 = 0) (hR : runC c.p (vn : Int) (t : Int) (c.iterC xn vn t).2 ((startP vn).drop xn) = (E, R)) : c.iterC xn vn (t + 1) = (E, if E = 0 then R.take xn else []) := by
  show (if (c.iterC xn vn t).1 ≠ 0 then c.iterC xn vn t else _) = _
  rw [if_neg (by simpa using h), hR]
theorem ChD.compC_bad (c : ChD) (xn vn l t : Nat) {E : Int} (ht : t ≤ l) (h : c.iterC xn vn t = (E, [])) (h0 : E ≠ 0) : c.compC xn vn l = (E, []) := by
  have h1 : (c.iterC xn vn t).1 ≠ 0 := by rw [h]; exact h0
  have e : c.iterC xn vn l = (E, []) := by
    rw [show l = t + (l - t) by omega, ChD.iterC_stay c xn vn t h1, h]
  unfold ChD.compC
  rw [e, if_pos h0]
theorem ChD.compC_end (c : ChD) (xn vn l : Nat) {E : Int} {R : List (List Tm)} (h : (c.iterC xn vn l).1 = 0) (hR : runC c.q (vn : Int) (-1) (c.iterC xn vn l).2 ((startP vn).drop xn) = (E, R)) : c.compC xn vn l = (E, if E = 0 then R.headD [] else []) := by
  unfold ChD.compC
  rw [if_neg (by simpa using h), hR]
theorem runC_all {n : Nat} (h64 : n ≤ 64) {p : PrD} {t : Int} {now fixed : List (List Tm)} (h1 : AllP (n : Int) now) (h2 : AllP (n : Int) fixed) (hl : 1 ≤ now.length) {E : Int} {R : List (List Tm)} (h : runC p (n : Int) t now fixed = (E, R)) : AllP (n : Int) R := by
  unfold runC at h
  obtain ⟨m, hm⟩ : ∃ m, (fullS p.regs (n : Int) t now fixed).length = m + 1 := ⟨(fullS p.regs (n : Int) t now fixed).length - 1, by unfold fullS; simp; omega⟩
  have h0 : afterS p.regs p.l ((List.replicate (fullS p.regs (n : Int) t now fixed).length (⟨(n : Int), none, 0, 0⟩ : PoH)).map (·.v)) (fullS p.regs (n : Int) t now fixed) = (E, R) := by
    rw [List.map_replicate]
    exact h
  have hh := afterS_all (List.length_replicate ..) h0
  rw [List.map_replicate, hm] at hh
  exact hh.1
def PolyAll (V : Int) (L : List Tm) (E : Int) (w : World) (e : Ending) (w' : World) : Prop :=
  ∃ a n c, e = .returned (.tuple #[.agg #[.int .i64 V, .slice a n c], .int .i64 E]) ∧ TOut (fun _ => True) w' a n c L ∧ Below w.heap.size w w'
end Go.Proofs.YtcamcnahkdiefaaGreat

/- Chapter 24: the document's Composite, whatever the arguments. -/
namespace Go.Proofs.YtcamcnahkdiefaaGreat
set_option linter.unusedVariables false
set_option linter.unusedSimpArgs false
open Go.RowKit
def mkC (p q : PrD) (x t : Int) : ChD := ⟨p, q, x, List.replicate t.toNat 0⟩
noncomputable def compS (p q : PrD) (x t l : Int) : Int × List Tm :=
  if pairS p q ≠ 0 then (pairS p q, []) else if dimsC p.regs q.regs x t ≠ 0 then (dimsC p.regs q.regs x t, []) else if l < 0 ∨ 65536 ≤ l then (2, []) else
  (mkC p q x t).compC x.toNat (x.toNat + t.toNat) l.toNat
theorem dimsC_zero {r1 r2 x t : Int} (h : dimsC r1 r2 x t = 0) : 1 ≤ x ∧ x ≤ 64 ∧ 0 ≤ t ∧ t ≤ 64 ∧ x + t + 1 ≤ r1 ∧ x + t ≤ r2 := by
  unfold dimsC at h
  split at h
  · cases h
  · omega
theorem mkC_ok {p q : PrD} {x t : Int} (h1 : pairS p q = 0) (h2 : dimsC p.regs q.regs x t = 0) : (mkC p q x t).Ok := by
  obtain ⟨a1, a2, a3, a4, _⟩ := dimsC_zero h2
  refine (mkC p q x t).ok_of ?_
  unfold ChD.bad mkC
  simp only [List.length_replicate]
  rw [if_neg (by simpa using h1), show ((t.toNat : Nat) : Int) = t by omega]
  exact h2
end Go.Proofs.YtcamcnahkdiefaaGreat

/- Chapter 24: model.Composite where there is no polynomial. -/
namespace Go.Proofs.YtcamcnahkdiefaaGreat
set_option linter.unusedVariables false
set_option linter.unusedSimpArgs false
open Go.RowKit
theorem mayC_th (p q : PrD) (x : Int) (tn : Nat) : (mkC p q x (tn : Int)).th = List.replicate tn 0 := by simp [mkC]
theorem MayN_calls (c : ChD) (tn : Nat) (hth : c.th = List.replicate tn 0) (htn : tn ≤ 64) (a : Option Addr) (l : Int) (w : World) (hp : At w c.p.a c.p.l) (hpl : c.p.l.length ≤ 1000000) (hq : At w c.q.a c.q.l) (hql : c.q.l.length ≤ 1000000) (hA : At w a (List.replicate tn (0 : UInt64))) (hx : -9223372036854775808 ≤ c.x ∧ c.x ≤ 9223372036854775807) (E : Int) (hE : c.mayM l = E) :
    Calls Tryz.prog 52 #[.agg #[.int .i64 c.p.regs, .slice c.p.a c.p.l.length c.p.c], .agg #[.int .i64 c.q.regs, .slice c.q.a c.q.l.length c.q.c], .int .i64 c.x, .slice a tn tn, .int .i64 l] w fun e w' => e = .returned (.int .i64 E) ∧ Below w.heap.size w w' := by
  have h := May24M_calls c a tn l w hp hpl hq hql (by rw [hth]; exact hA) hx (by rw [hth, List.length_replicate]; omega) E hE
  rw [hth, List.length_replicate] at h
  exact h
set_option maxRecDepth 100000 in
set_option maxHeartbeats 3200000 in
theorem MComp_bad (c : ChD) (xn : Int) (tn : Nat) (hxn : c.x = xn) (hth : c.th = List.replicate tn 0) (htn : tn ≤ 64) (l : Int) (w : World) (hp : At w c.p.a c.p.l) (hpl : c.p.l.length ≤ 1000000) (hq : At w c.q.a c.q.l) (hql : c.q.l.length ≤ 1000000) (hx : -9223372036854775808 ≤ xn ∧ xn ≤ 9223372036854775807) (E : Int) (hE : c.mayM l = E) (h0 : E ≠ 0) :
    Calls Tryz.prog 29 #[.agg #[.int .i64 c.p.regs, .slice c.p.a c.p.l.length c.p.c], .agg #[.int .i64 c.q.regs, .slice c.q.a c.q.l.length c.q.c], .int .i64 xn, .int .i64 (tn : Int), .int .i64 l] w (PolyAll 0 [] E w) := by
  obtain ⟨hX, hY, hR, hb0, hz0⟩ := three_boxes w 24 24 42 #[.int .i64 c.p.regs, .slice c.p.a c.p.l.length c.p.c] #[.int .i64 c.q.regs, .slice c.q.a c.q.l.length c.q.c] #[.int .i64 0, .slice none 0 0]
  have HMY := hide (fun (W : World) (a : Option Addr) (hW : Below w.heap.size w W) (hA : At W a (List.replicate tn (0 : UInt64))) => MayN_calls c tn hth htn a l W (hp.belowN hW) hpl (hq.belowN hW) hql hA (by rw [hxn]; exact hx) E hE)
  rw [hxn] at HMY
  obtain ⟨w1, hw1⟩ : ∃ w1, w1 = ((w.alloc (.cells #[.int .i64 c.p.regs, .slice c.p.a c.p.l.length c.p.c] 24)).alloc (.cells #[.int .i64 c.q.regs, .slice c.q.a c.q.l.length c.q.c] 24)).alloc (.cells #[.int .i64 0, .slice none 0 0] 42) := ⟨_, rfl⟩
  rw [← hw1] at hX hY hR hb0
  obtain ⟨p0, p1, p2, p3⟩ := hX.c2
  obtain ⟨p4, p5, p6, p7⟩ := hY.c2
  obtain ⟨S', hS'⟩ : ∃ S' : World → Prop, S' = fun w' => (w'.cell? ⟨w.heap.size, 0, none⟩ = some (.int .i64 c.p.regs) ∧ w'.cell? ⟨w.heap.size, 1, none⟩ = some (.slice c.p.a c.p.l.length c.p.c)) ∧ w'.cell? ⟨w.heap.size + 1, 0, none⟩ = some (.int .i64 c.q.regs) ∧ w'.cell? ⟨w.heap.size + 1, 1, none⟩ = some (.slice c.q.a c.q.l.length c.q.c) := ⟨_, rfl⟩
  have HSE : Hid (∀ w', S' w' → (w'.cell? ⟨w.heap.size, 0, none⟩ = some (.int .i64 c.p.regs) ∧ w'.cell? ⟨w.heap.size, 1, none⟩ = some (.slice c.p.a c.p.l.length c.p.c)) ∧ w'.cell? ⟨w.heap.size + 1, 0, none⟩ = some (.int .i64 c.q.regs) ∧ w'.cell? ⟨w.heap.size + 1, 1, none⟩ = some (.slice c.q.a c.q.l.length c.q.c)) := hide (fun w' h => by rw [hS'] at h; exact h)
  have HSI : Hid (∀ w4, Below w1.heap.size w1 w4 → S' w4) := hide (fun w4 h4 => by
    rw [hS']
    have a1 := (hX.belowN h4).c2
    have a2 := (hY.belowN h4).c2
    exact ⟨⟨a1.1, a1.2.1⟩, a2.1, a2.2.1⟩)
  have hdw : Below w1.heap.size w1 w1.drew := Below.drew (Below.refl _ _)
  have hmk := mkU tn (tn : Int) rfl (by omega)
  have hz1 := hb0.size
  have hq3 : w.heap.size ≤ w.heap.size + 1 + 1 := by omega
  have e1 : (E == 0) = false := by simpa using h0
  have e2 : (E != 0) = true := by simpa using h0
  have d1 : ¬ (tn : Int) < 0 := by omega
  have d2 : ¬ 64 < (tn : Int) := by omega
  clear hS' hE h0 hth hxn hz0
  go_enter Tryz.func29, Tryz.ntmps29
  go_wp2
  refine wp_scope_straight ?_
  go_wp2
  rw [← hw1]
  clear hw1
  refine wp_region_fan [0, 1, 2, 3, 5] [4, 6] [] [7] S' (by kernel_rfl) (by kernel_rfl) (HSI.out _ hdw) ?_
  simp only [pickL, List.filterMap_cons, List.filterMap_nil, List.getElem?_cons_succ, List.getElem?_cons_zero]
  iterate 5
    apply headK_step (by rfl)
    · intro w' hw'
      obtain ⟨⟨s0, s1⟩, s2, s3⟩ := HSE.out w' hw'
      go_simp
      rfl
    intro a' ha'
    simp only [Act.put, List.setIfInBounds_toArray, List.set_cons_succ, List.set_cons_zero] at ha'
    subst ha'
  refine headK_nil ?_
  rw [midF]
  intro K0 hK0
  have HK0 := hide hK0
  clear hK0
  go_simp
  have hB2 : Below w1.heap.size w1 (w1.alloc (.cells (zerosU tn) 50)).drew := Below.drew (below_box w1 _)
  have hZ2 := ((ownZ (B := w1.heap.size) w1 (Nat.le_refl _) tn (by omega)).belowN (Below.drew (Below.refl _ _))).at_
  refine HK0.out _ _ (HSI.out _ hB2) ?_
  clear HK0
  rw [midF]
  intro K0 hK0
  have HK0 := hide hK0
  clear hK0
  go_simp
  go_at_call 52
  refine (HMY.out _ _ (hb0.trans (hB2.mono hz1)) hZ2).mono ?_
  rintro e w2 ⟨rfl, hb2⟩
  have hB3 := hB2.trans (hb2.mono hB2.size)
  refine HK0.out _ _ (HSI.out _ hB3) ?_
  clear HK0 HSI HSE hZ2
  rw [midF]
  refine headK_nil ?_
  go_wp2
  refine NoPanic.normal ?_
  obtain ⟨r0, r1, r2, r3⟩ := (hR.belowN hB3).c2
  go_wp2
  have hF := ((hR.belowN hB3).set_ 0 (.int .i64 0)).set_ 1 (.slice none 0 0)
  try rw [Exit.noGoto_ret]
  refine bodyPost_ret (results_rowP rfl _ _ (w.heap.size + 1 + 1) _ #[.int .i64 0, .slice none 0 0] (0, 0) _ rfl hF Tryz.underlying42 rfl (by kernel_rfl)) rfl ⟨none, 0, 0, rfl, TOut.nil _ _, ?_⟩
  exact ((hb0.trans (hB3.mono hz1)).setCell (p := ⟨w.heap.size + 1 + 1, 0, none⟩) hq3 _).setCell (p := ⟨w.heap.size + 1 + 1, 1, none⟩) hq3 _
set_option maxRecDepth 100000 in
set_option maxHeartbeats 3200000 in
theorem MComp_low (p q : PrD) (x t l : Int) (w : World) (hp : At w p.a p.l) (hpl : p.l.length ≤ 1000000) (hq : At w q.a q.l) (hql : q.l.length ≤ 1000000) (hx : -9223372036854775808 ≤ x ∧ x ≤ 9223372036854775807) (h1 : t < 0) (E : Int) (hE : (⟨p, q, x, List.replicate 65 0⟩ : ChD).bad = E) (h0 : E ≠ 0) :
    Calls Tryz.prog 29 #[.agg #[.int .i64 p.regs, .slice p.a p.l.length p.c], .agg #[.int .i64 q.regs, .slice q.a q.l.length q.c], .int .i64 x, .int .i64 t, .int .i64 l] w (PolyAll 0 [] E w) := by
  obtain ⟨hX, hY, hR, hb0, hz0⟩ := three_boxes w 24 24 42 #[.int .i64 p.regs, .slice p.a p.l.length p.c] #[.int .i64 q.regs, .slice q.a q.l.length q.c] #[.int .i64 0, .slice none 0 0]
  obtain ⟨p0, p1, p2, p3⟩ := hX.c2
  obtain ⟨p4, p5, p6, p7⟩ := hY.c2
  have hq3 : w.heap.size ≤ w.heap.size + 1 + 1 := by omega
  have HCH := hide (Check24_calls p q x _ (hp.belowN hb0) hpl (hq.belowN hb0) hql hx E hE h0)
  clear hE h0
  go_enter Tryz.func29, Tryz.ntmps29
  go_wp2
  refine wp_scope_straight ?_
  go_wp2_with (go_at_call 59; go_must ((with_reducible refine (HCH.out).mono ?_); rintro e w1 ⟨rfl, hb1⟩; obtain ⟨r0, r1, r2, r3⟩ := (hR.belowN hb1).c2))
  have hF := ((hR.belowN hb1).set_ 0 (.int .i64 0)).set_ 1 (.slice none 0 0)
  try rw [Exit.noGoto_ret]
  refine bodyPost_ret (results_rowP rfl _ _ (w.heap.size + 1 + 1) _ #[.int .i64 0, .slice none 0 0] (0, 0) _ rfl hF Tryz.underlying42 rfl (by kernel_rfl)) rfl ⟨none, 0, 0, rfl, TOut.nil _ _, ?_⟩
  exact ((hb0.trans (hb1.mono hb0.size)).setCell (p := ⟨w.heap.size + 1 + 1, 0, none⟩) hq3 _).setCell (p := ⟨w.heap.size + 1 + 1, 1, none⟩) hq3 _
set_option maxRecDepth 100000 in
set_option maxHeartbeats 3200000 in
theorem MComp_high (p q : PrD) (x t l : Int) (w : World) (hp : At w p.a p.l) (hpl : p.l.length ≤ 1000000) (hq : At w q.a q.l) (hql : q.l.length ≤ 1000000) (hx : -9223372036854775808 ≤ x ∧ x ≤ 9223372036854775807) (h1 : ¬ t < 0) (h2 : 64 < t) (d1 : decide (t < 0) = false) (E : Int) (hE : (⟨p, q, x, List.replicate 65 0⟩ : ChD).bad = E) (h0 : E ≠ 0) :
    Calls Tryz.prog 29 #[.agg #[.int .i64 p.regs, .slice p.a p.l.length p.c], .agg #[.int .i64 q.regs, .slice q.a q.l.length q.c], .int .i64 x, .int .i64 t, .int .i64 l] w (PolyAll 0 [] E w) := by
  obtain ⟨hX, hY, hR, hb0, hz0⟩ := three_boxes w 24 24 42 #[.int .i64 p.regs, .slice p.a p.l.length p.c] #[.int .i64 q.regs, .slice q.a q.l.length q.c] #[.int .i64 0, .slice none 0 0]
  obtain ⟨p0, p1, p2, p3⟩ := hX.c2
  obtain ⟨p4, p5, p6, p7⟩ := hY.c2
  have hq3 : w.heap.size ≤ w.heap.size + 1 + 1 := by omega
  have HCH := hide (Check24_calls p q x _ (hp.belowN hb0) hpl (hq.belowN hb0) hql hx E hE h0)
  clear hE h0
  go_enter Tryz.func29, Tryz.ntmps29
  go_wp2
  refine wp_scope_straight ?_
  go_wp2_with (go_at_call 59; go_must ((with_reducible refine (HCH.out).mono ?_); rintro e w1 ⟨rfl, hb1⟩; obtain ⟨r0, r1, r2, r3⟩ := (hR.belowN hb1).c2))
  have hF := ((hR.belowN hb1).set_ 0 (.int .i64 0)).set_ 1 (.slice none 0 0)
  try rw [Exit.noGoto_ret]
  refine bodyPost_ret (results_rowP rfl _ _ (w.heap.size + 1 + 1) _ #[.int .i64 0, .slice none 0 0] (0, 0) _ rfl hF Tryz.underlying42 rfl (by kernel_rfl)) rfl ⟨none, 0, 0, rfl, TOut.nil _ _, ?_⟩
  exact ((hb0.trans (hb1.mono hb0.size)).setCell (p := ⟨w.heap.size + 1 + 1, 0, none⟩) hq3 _).setCell (p := ⟨w.heap.size + 1 + 1, 1, none⟩) hq3 _
end Go.Proofs.YtcamcnahkdiefaaGreat

/- Chapter 24: symbol.After of a program's registers, of which blocks the results are. -/
namespace Go.Proofs.YtcamcnahkdiefaaGreat
set_option linter.unusedVariables false
set_option linter.unusedSimpArgs false
open Go.RowKit
theorem MAftQ_calls (QP : Nat → Prop) (p : PrD) (vn : Nat) (t : Int) (now fixed : List (List Tm)) (sa : Option Addr) (sn sc : Nat) (hs : List PoH) (hsn : sn = hs.length) (w : World) (hp : At w p.a p.l) (hpl : p.l.length ≤ 1000000) (hst : At w sa hs)
    (hP : PsAt (fun q => QP q ∧ q < w.heap.size) w (vn : Int) hs (fullS p.regs (vn : Int) t now fixed)) (hA : AllP (vn : Int) (fullS p.regs (vn : Int) t now fixed)) (h1 : 1 ≤ sn) (E : Int) (R : List (List Tm)) (hR : runC p (vn : Int) t now fixed = (E, R)) :
    Calls Tryz.prog 19 #[.agg #[.int .i64 p.regs, .slice p.a p.l.length p.c], .slice sa sn sc] w (PolysOutQ QP (vn : Int) R E w) := by
  have hvs := hP.vs
  have hR' : afterS p.regs p.l (hs.map (fun y : PoH => y.v)) (fullS p.regs (vn : Int) t now fixed) = (E, R) := by
    rw [hvs]
    exact hR
  have h := AfterQ_calls p.regs p.a p.c p.l sa sn sc hs _ hsn QP w hp hpl hst (hP.toV hA) E R hR'
  have hhd : (hs.map (fun y : PoH => y.v)).headD 0 = (vn : Int) := by
    rw [hvs]
    obtain ⟨m, hm⟩ : ∃ m, (fullS p.regs (vn : Int) t now fixed).length = m + 1 := ⟨(fullS p.regs (vn : Int) t now fixed).length - 1, by rw [← hP.1]; omega⟩
    rw [hm]
    rfl
  rw [hhd] at h
  exact h
theorem fullS_of {vn : Nat} {rg : Nat} {t : Int} {now fixed : List (List Tm)} {k : Nat} (hk : now.length + fixed.length + (moreS (vn : Int) t).length + k = rg) : now ++ fixed ++ moreS (vn : Int) t ++ List.replicate k [] = fullS (rg : Int) (vn : Int) t now fixed := by
  unfold fullS
  rw [show (rg : Int).toNat - (now ++ fixed ++ moreS (vn : Int) t).length = k by simp; omega]
theorem moreS_one {vn t : Nat} {tv : UInt64} (h : UInt64.ofNat t = tv) : moreS (vn : Int) (t : Int) = consS (vn : Int) [tv] := by
  unfold moreS consS
  rw [if_neg (by omega), Int.toNat_natCast, h]
  rfl
theorem moreS_none {vn : Nat} : moreS (vn : Int) (-1) = [] := by
  unfold moreS
  rw [if_pos (by decide)]
end Go.Proofs.YtcamcnahkdiefaaGreat
