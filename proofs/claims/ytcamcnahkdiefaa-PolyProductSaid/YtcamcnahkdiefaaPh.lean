/- ref03.merged, sorted, Make. -/
import Derived.Test.YtcamcnahkdiefaaPg
namespace Go.Proofs.Ytcamcnahkdiefaa
set_option linter.unusedVariables false
set_option linter.unusedSimpArgs false
open Go.RowKit
theorem take_succ_drop {α : Type} {l : List α} {k : Nat} (h : ¬ k < l.length) : l.drop k = [] := List.drop_eq_nil_of_le (by omega)
/-- a term goes on (or not) -/
theorem merge_goes {M out rest : List Tm} {t : Tm} (h : out ++ (nzT [t] ++ rest) = M) : (t.1 = 0 → out ++ rest = M) ∧ (t.1 ≠ 0 → (out ++ [t]) ++ rest = M) := by
  refine ⟨fun h0 => ?_, fun h0 => ?_⟩
  · rw [nz_one, if_pos h0] at h; exact h
  · rw [nz_one, if_neg h0] at h; rw [← h, List.append_assoc]
set_option maxRecDepth 100000 in
set_option maxHeartbeats 12800000 in
theorem Merged_calls (P : Nat → Prop) (nv : Nat) (a b : Option Addr) (n m ca cb : Nat) (A B : List Tm) (hn : n = A.length) (hm : m = B.length) (w : World) (h : AtTP P w a A) (h' : AtTP P w b B) (hl : n ≤ 100000000) (hl' : m ≤ 100000000) (hA : LenT nv A) (hB : LenT nv B) (hnv : nv ≤ 1000000) (M : List Tm) (hM : mergeT A B = M) :
    Calls Try.prog 48 #[.slice a n ca, .slice b m cb] w fun v w' => ∃ a' n' c', v = .returned (.slice a' n' c') ∧ n' = M.length ∧ n' ≤ c' ∧ c' ≤ 9223372036854775807 ∧ AtTP (fun q => P q ∨ w.heap.size ≤ q) w' a' M ∧ Below w.heap.size w w' := by
  have HN := hide hn
  have HM := hide hm
  have HA := hide hA
  have HB := hide hB
  have HMM : Hid ([] ++ mergeT (A.drop 0) (B.drop 0) = M) := by show _ = M; rw [← hM]; rfl
  have hO := Own.new w (Nat.le_refl _) 57 TmH
  have hb0 := below_box w (.cells #[] 57)
  have hnil : ∀ b' : Option Addr, OwnT P (w.alloc (.cells #[] 57)) w.heap.size (some ⟨w.heap.size, 0, none⟩) 0 [] [] := fun _ => OwnT.nil hO
  clear hn hm hA hB hM
  go_enter Try.func48, Try.ntmps48
  go_wp2
  go_loopw [5, 6, 7] (fun ov iv kv wr => ∃ (i k o : Nat) (ao : Option Addr) (co : Nat) (hs : List TmH) (out : List Tm), iv = .int .i64 i ∧ i ≤ n ∧ kv = .int .i64 k ∧ k ≤ m ∧ ov = .slice ao o co ∧ o ≤ i + k ∧ Hid (o = out.length) ∧ OwnT P wr w.heap.size ao co hs out ∧ Hid (out ++ mergeT (A.drop i) (B.drop k) = M) ∧ Below w.heap.size w wr) (fun _ iv kv _ => (n - (intOf iv).toNat) + (m - (intOf kv).toNat))
  case atStart => exact ⟨0, 0, 0, _, _, [], [], rfl, by omega, rfl, by omega, rfl, by omega, by show _ = _; rfl, hnil none, HMM.out, hb0⟩
  case round =>
    obtain ⟨i, k, o, ao, co, hs, out, rfl, hi, rfl, hk, rfl, ho, hol, hown, hMr, hb⟩ := hrel
    have hzr := hb.size
    have hi0 : (0 : Int) ≤ (i : Int) := by omega
    have hk0 : (0 : Int) ≤ (k : Int) := by omega
    have hblk := hown.out.blk
    have HOL := hide (show o = hs.length by rw [hown.len]; exact hol.out)
    by_cases hlt : i < n
    · have hi1 : (i : Int) < (n : Int) := by omega
      have hin : ((i : Int) == (n : Int)) = false := by simpa using (show ¬ (i : Int) = (n : Int) by omega)
      obtain ⟨b1, off1, x, ea, en, ec, rfl, hx, x0, x1, hrowX, hfarX⟩ := h.getF hb (k := i) (by rw [← HN.out]; exact hlt)
      have hdA := drop_at hx.out
      have hlx := HA.out x (List.mem_of_getElem? hx.out)
      by_cases hlt2 : k < m
      · have hk1 : (k : Int) < (m : Int) := by omega
        have hkm : ((k : Int) == (m : Int)) = false := by simpa using (show ¬ (k : Int) = (m : Int) by omega)
        obtain ⟨b2, off2, y, fa, fn, fc, rfl, hy, y0, y1, hrowY, hfarY⟩ := h'.getF hb (k := k) (by rw [← HM.out]; exact hlt2)
        have hdB := drop_at hy.out
        have hly := HB.out y (List.mem_of_getElem? hy.out)
        obtain ⟨R, hR⟩ : ∃ R, ordR x.2 y.2 = R := ⟨_, rfl⟩
        have hlen1 : en = nv := hrowX.out.2.1.trans hlx
        have hlen2 : fn = nv := hrowY.out.2.1.trans hly
        have HO := hide (fun (W : World) (k1 : Below wr.heap.size wr W) => Order_calls ea fa en fn ec fc x.2 y.2 hrowX.out.2.1 hrowY.out.2.1 (by omega) W (hrowX.out.2.2.2.2.belowN k1) (hrowY.out.2.2.2.2.belowN k1) (by omega) R hR)
        have hMr2 := hMr.out
        clear hlen1 hlen2
        rcases ordR_val x.2 y.2 with hc | hc | hc
        · rw [hR] at hc
          subst hc
          rw [show mergeT (A.drop i) (B.drop k) = nzT [x] ++ mergeT (A.drop (i + 1)) (B.drop k) by rw [hdA]; exact merge_l (.inr ⟨y, _, hdB, by rw [hR]; decide⟩)] at hMr2
          have HG := hide (merge_goes hMr2)
          clear hMr2 hdA hdB hR hx hlx hy hly
          go_wp2
          go_quiet ((go_at_call 39; first | exact quiet_add (HO.out _ (below_drawn _ _ _)) | exact quietN (HO.out _ (below_drawn _ _ _))))
          obtain ⟨wq, hwq⟩ : ∃ wq, wq = wr.drewN nq := ⟨_, rfl⟩
          rw [← hwq]
          have hbq : Below wr.heap.size wr wq := by rw [hwq]; exact below_drawn _ _ _
          clear hwq
          have hbW := hb.trans (hbq.mono hzr)
          have hownW := hown.belowN hbq
          have z0 := cell_later (hbq.trans ((below_box wq (.cells #[.int .u64 0, .slice none 0 0] 57)).mono hbq.size)) x0
          have z1 := cell_later (hbq.trans ((below_box wq (.cells #[.int .u64 0, .slice none 0 0] 57)).mono hbq.size)) x1
          obtain ⟨t, rfl⟩ : ∃ t, t = x := ⟨x, rfl⟩
          have hrowW := hide (hrowX.out.belowN hbq)
          have HFAR : Hid (t.2 ≠ [] → ea.map (·.block) ≠ ao.map (·.block) ∧ ∀ q, ea.map (·.block) = some q → P q) := hide fun hne => by
            obtain ⟨q, e1, e2, e3⟩ := hfarX.out hne
            refine ⟨fun e => ?_, fun q' e' => ?_⟩
            · have := (hblk q (by rw [← e, e1])).1
              omega
            · rw [e1] at e'; injection e' with e'; rw [← e']; exact e3
          have hbx := below_box wq (.cells #[.int .u64 (t.1.toNat : Int), .slice ea en ec] 57)
          have hT := Blk.new wq 57 #[.int .u64 (t.1.toNat : Int), .slice ea en ec]
          have hBx := hbW.trans (hbx.mono hbW.size)
          have hzx := hBx.size
          have hownx := hownW.belowN hbx
          have hrowx := hrowW.out.belowN hbx
          obtain ⟨r0, r1, r2, r3⟩ := hT.c2
          by_cases hc0 : t.1 = 0
          · have e1 : ((t.1.toNat : Int) != 0) = false := by rw [hc0]; rfl
            have e2 : ((t.1.toNat : Int) == 0) = true := by rw [hc0]; rfl
            have HG2 := hide (HG.out.1 hc0)
            clear hc0
            go_wp2
            go_roundw
            case rel => exact ⟨i + 1, k, o, ao, co, hs, out, by go_num, by omega, by go_num, by omega, rfl, by omega, hol.out, hownx, HG2.out, hBx⟩
            case measure => simp [intOf]; omega
          · have e1 : ((t.1.toNat : Int) != 0) = true := by
              simp only [bne_iff_ne, ne_eq]
              exact fun q => hc0 (UInt64.toNat_inj.1 (by simpa using q))
            have e2 : ((t.1.toNat : Int) == 0) = false := by
              simp only [beq_eq_false_iff_ne, ne_eq]
              exact fun q => hc0 (UInt64.toNat_inj.1 (by simpa using q))
            have HG2 := hide (HG.out.2 hc0)
            clear hc0
            go_wp2_with (at_builtin; go_must (refine wpList_push tyT hownx.out ⟨t.1, ea, en, ec⟩ rfl rfl rfl rfl rfl (by simp) HOL.out hzx (by omega) ?_; intro a3 c3 w3 hown3 hg3 hcs3; have hOT := hownx.push hown3 hg3 hcs3 hrowx HFAR.out; have hB3 := below_push hBx hownx.out hg3 hzx))
            go_roundw
            case rel => exact ⟨i + 1, k, o + 1, a3, c3, _, out ++ [t], by go_num, by omega, by go_num, by omega, rfl, by omega, by show _ = _; rw [List.length_append, ← hol.out]; rfl, hOT, HG2.out, hB3⟩
            case measure => simp [intOf]; omega
        · rw [hR] at hc
          subst hc
          rw [show mergeT (A.drop i) (B.drop k) = nzT [(x.1 + y.1, x.2)] ++ mergeT (A.drop (i + 1)) (B.drop (k + 1)) by rw [hdA, hdB]; exact merge_b hR] at hMr2
          have HG := hide (merge_goes hMr2)
          clear hMr2 hdA hdB hR hx hlx hy hly
          go_wp2
          go_quiet ((go_at_call 39; first | exact quiet_add (HO.out _ (below_drawn _ _ _)) | exact quietN (HO.out _ (below_drawn _ _ _))))
          obtain ⟨wq, hwq⟩ : ∃ wq, wq = wr.drewN nq := ⟨_, rfl⟩
          rw [← hwq]
          have hbq : Below wr.heap.size wr wq := by rw [hwq]; exact below_drawn _ _ _
          clear hwq
          have hbW := hb.trans (hbq.mono hzr)
          have hownW := hown.belowN hbq
          have hbz := hbq.trans ((below_box wq (.cells #[.int .u64 0, .slice none 0 0] 57)).mono hbq.size)
          have z0 := cell_later hbz x0
          have z1 := cell_later hbz x1
          have v0 := cell_later hbz y0
          have v1 := cell_later hbz y1
          have hGz := Blk.new wq 57 #[.int .u64 0, .slice none 0 0]
          have HP := hide (fun W => Plus_calls x.1 y.1 W)
          obtain ⟨T, hT⟩ : ∃ T, x.1 + y.1 = T := ⟨_, rfl⟩
          rw [hT] at HP HG
          obtain ⟨wz, hwz⟩ : ∃ wz, wz = wq.alloc (.cells #[.int .u64 0, .slice none 0 0] 57) := ⟨_, rfl⟩
          have HZ := hide hwz
          rw [← hwz] at hbz hGz z0 z1 v0 v1
          have hbwz : Below wq.heap.size wq wz := by rw [hwz]; exact below_box _ _
          have hB0 := Below.drew (Below.refl wz.heap.size wz)
          have hb1lt := World.block_lt_of_cell? _ _ x0
          have hb2lt := World.block_lt_of_cell? _ _ y0
          have hgb1 : wq.heap.size ≠ b1 := by have := hbq.size; simp at hb1lt; omega
          have hgb2 : wq.heap.size ≠ b2 := by have := hbq.size; simp at hb2lt; omega
          clear hwz hT hb1lt hb2lt
          go_wp2
          rw [← HZ.out]
          go_region_held3 (fun w' => w'.cell? ⟨b1, off1 + i * 2, none⟩ = some (.int .u64 (x.1.toNat : Int)) ∧ w'.cell? ⟨b1, off1 + i * 2 + 1, none⟩ = some (.slice ea en ec) ∧ w'.cell? ⟨b2, off2 + k * 2, none⟩ = some (.int .u64 (y.1.toNat : Int))) (go_keep)
            ((go_at_call 38; go_must ((with_reducible refine (HP.out _).mono ?_); rintro v w5 ⟨rfl, hb5⟩; have hB5 := hB0.trans (hb5.mono hB0.size); have o0 := cell_later hB5 z0; have o1 := cell_later hB5 z1; have o2 := cell_later hB5 v0; obtain ⟨s0, s1, s2, s3⟩ := (hGz.belowN hB5).c2)))
          obtain ⟨wX, hwX⟩ : ∃ wX, wX = (w5.setCell ⟨wq.heap.size, 0, none⟩ (.int .u64 (T.toNat : Int))).setCell ⟨wq.heap.size, 1, none⟩ (.slice ea en ec) := ⟨_, rfl⟩
          rw [← hwX]
          obtain ⟨t, e1, e2⟩ : ∃ t : Tm, T = t.1 ∧ t.2 = x.2 := ⟨(T, x.2), rfl, rfl⟩
          have e3 : (T, x.2) = t := Prod.ext e1 e2.symm
          rw [e3] at HG
          clear e3
          subst e1
          have hbx : Below wq.heap.size wq wX := by rw [hwX]; exact ((hbwz.trans (hB5.mono hbwz.size)).setCell (p := ⟨wq.heap.size, 0, none⟩) (Nat.le_refl _) _).setCell (p := ⟨wq.heap.size, 1, none⟩) (Nat.le_refl _) _
          have hT : Blk wX wq.heap.size 57 #[.int .u64 (t.1.toNat : Int), .slice ea en ec] := by rw [hwX]; exact ((hGz.belowN hB5).set_ 0 (.int .u64 (t.1.toNat : Int))).set_ 1 (.slice ea en ec)
          have hrx := hrowX.out.belowN hbq
          have hrowW : Hid (TmH.of wq ⟨t.1, ea, en, ec⟩ t) := hide ⟨rfl, by rw [e2]; exact hrx.2.1, hrx.2.2.1, hrx.2.2.2.1, by rw [e2]; exact hrx.2.2.2.2⟩
          have HFAR : Hid (t.2 ≠ [] → ea.map (·.block) ≠ ao.map (·.block) ∧ ∀ q, ea.map (·.block) = some q → P q) := hide fun hne => by
            obtain ⟨q, e1, e3, e4⟩ := hfarX.out (by rw [← e2]; exact hne)
            refine ⟨fun e => ?_, fun q' e' => ?_⟩
            · have := (hblk q (by rw [← e, e1])).1
              omega
            · rw [e1] at e'; injection e' with e'; rw [← e']; exact e4
          clear hwX e2 hrx
          have hBx := hbW.trans (hbx.mono hbW.size)
          have hzx := hBx.size
          have hownx := hownW.belowN hbx
          have hrowx := hrowW.out.belowN hbx
          obtain ⟨r0, r1, r2, r3⟩ := hT.c2
          by_cases hc0 : t.1 = 0
          · have e1 : ((t.1.toNat : Int) != 0) = false := by rw [hc0]; rfl
            have e2 : ((t.1.toNat : Int) == 0) = true := by rw [hc0]; rfl
            have HG2 := hide (HG.out.1 hc0)
            clear hc0
            go_wp2
            go_roundw
            case rel => exact ⟨i + 1, k + 1, o, ao, co, hs, out, by go_num, by omega, by go_num, by omega, rfl, by omega, hol.out, hownx, HG2.out, hBx⟩
            case measure => simp [intOf]; omega
          · have e1 : ((t.1.toNat : Int) != 0) = true := by
              simp only [bne_iff_ne, ne_eq]
              exact fun q => hc0 (UInt64.toNat_inj.1 (by simpa using q))
            have e2 : ((t.1.toNat : Int) == 0) = false := by
              simp only [beq_eq_false_iff_ne, ne_eq]
              exact fun q => hc0 (UInt64.toNat_inj.1 (by simpa using q))
            have HG2 := hide (HG.out.2 hc0)
            clear hc0
            go_wp2_with (at_builtin; go_must (refine wpList_push tyT hownx.out ⟨t.1, ea, en, ec⟩ rfl rfl rfl rfl rfl (by simp) HOL.out hzx (by omega) ?_; intro a3 c3 w3 hown3 hg3 hcs3; have hOT := hownx.push hown3 hg3 hcs3 hrowx HFAR.out; have hB3 := below_push hBx hownx.out hg3 hzx))
            go_roundw
            case rel => exact ⟨i + 1, k + 1, o + 1, a3, c3, _, out ++ [t], by go_num, by omega, by go_num, by omega, rfl, by omega, by show _ = _; rw [List.length_append, ← hol.out]; rfl, hOT, HG2.out, hB3⟩
            case measure => simp [intOf]; omega
        · rw [hR] at hc
          subst hc
          rw [show mergeT (A.drop i) (B.drop k) = nzT [y] ++ mergeT (A.drop i) (B.drop (k + 1)) by rw [hdB]; exact merge_r (.inr ⟨x, _, hdA, by rw [hR]; decide⟩)] at hMr2
          have HG := hide (merge_goes hMr2)
          clear hMr2 hdA hdB hR hx hlx hy hly
          go_wp2
          go_quiet ((go_at_call 39; first | exact quiet_add (HO.out _ (below_drawn _ _ _)) | exact quietN (HO.out _ (below_drawn _ _ _))))
          obtain ⟨wq, hwq⟩ : ∃ wq, wq = wr.drewN nq := ⟨_, rfl⟩
          rw [← hwq]
          have hbq : Below wr.heap.size wr wq := by rw [hwq]; exact below_drawn _ _ _
          clear hwq
          have hbW := hb.trans (hbq.mono hzr)
          have hownW := hown.belowN hbq
          have z0 := cell_later (hbq.trans ((below_box wq (.cells #[.int .u64 0, .slice none 0 0] 57)).mono hbq.size)) y0
          have z1 := cell_later (hbq.trans ((below_box wq (.cells #[.int .u64 0, .slice none 0 0] 57)).mono hbq.size)) y1
          obtain ⟨t, rfl⟩ : ∃ t, t = y := ⟨y, rfl⟩
          have hrowW := hide (hrowY.out.belowN hbq)
          have HFAR : Hid (t.2 ≠ [] → fa.map (·.block) ≠ ao.map (·.block) ∧ ∀ q, fa.map (·.block) = some q → P q) := hide fun hne => by
            obtain ⟨q, e1, e2, e3⟩ := hfarY.out hne
            refine ⟨fun e => ?_, fun q' e' => ?_⟩
            · have := (hblk q (by rw [← e, e1])).1
              omega
            · rw [e1] at e'; injection e' with e'; rw [← e']; exact e3
          have hbx := below_box wq (.cells #[.int .u64 (t.1.toNat : Int), .slice fa fn fc] 57)
          have hT := Blk.new wq 57 #[.int .u64 (t.1.toNat : Int), .slice fa fn fc]
          have hBx := hbW.trans (hbx.mono hbW.size)
          have hzx := hBx.size
          have hownx := hownW.belowN hbx
          have hrowx := hrowW.out.belowN hbx
          obtain ⟨r0, r1, r2, r3⟩ := hT.c2
          by_cases hc0 : t.1 = 0
          · have e1 : ((t.1.toNat : Int) != 0) = false := by rw [hc0]; rfl
            have e2 : ((t.1.toNat : Int) == 0) = true := by rw [hc0]; rfl
            have HG2 := hide (HG.out.1 hc0)
            clear hc0
            go_wp2
            go_roundw
            case rel => exact ⟨i, k + 1, o, ao, co, hs, out, by go_num, by omega, by go_num, by omega, rfl, by omega, hol.out, hownx, HG2.out, hBx⟩
            case measure => simp [intOf]; omega
          · have e1 : ((t.1.toNat : Int) != 0) = true := by
              simp only [bne_iff_ne, ne_eq]
              exact fun q => hc0 (UInt64.toNat_inj.1 (by simpa using q))
            have e2 : ((t.1.toNat : Int) == 0) = false := by
              simp only [beq_eq_false_iff_ne, ne_eq]
              exact fun q => hc0 (UInt64.toNat_inj.1 (by simpa using q))
            have HG2 := hide (HG.out.2 hc0)
            clear hc0
            go_wp2_with (at_builtin; go_must (refine wpList_push tyT hownx.out ⟨t.1, fa, fn, fc⟩ rfl rfl rfl rfl rfl (by simp) HOL.out hzx (by omega) ?_; intro a3 c3 w3 hown3 hg3 hcs3; have hOT := hownx.push hown3 hg3 hcs3 hrowx HFAR.out; have hB3 := below_push hBx hownx.out hg3 hzx))
            go_roundw
            case rel => exact ⟨i, k + 1, o + 1, a3, c3, _, out ++ [t], by go_num, by omega, by go_num, by omega, rfl, by omega, by show _ = _; rw [List.length_append, ← hol.out]; rfl, hOT, HG2.out, hB3⟩
            case measure => simp [intOf]; omega
      · obtain rfl : k = m := by omega
        have hkm : ((k : Int) == (k : Int)) = true := by simp
        have hkk : ¬ (k : Int) < (k : Int) := by omega
        have hMr2 := hMr.out
        have hdB : B.drop k = [] := take_succ_drop (by rw [← HM.out]; exact hlt2)
        rw [show mergeT (A.drop i) (B.drop k) = nzT [x] ++ mergeT (A.drop (i + 1)) (B.drop k) by rw [hdA]; exact merge_l (.inl hdB)] at hMr2
        have HG := hide (merge_goes hMr2)
        have z0 := cell_later (below_box wr (.cells #[.int .u64 0, .slice none 0 0] 57)) x0
        have z1 := cell_later (below_box wr (.cells #[.int .u64 0, .slice none 0 0] 57)) x1
        obtain ⟨t, rfl⟩ : ∃ t, t = x := ⟨x, rfl⟩
        have hbW := hb
        have hownW := hown
        have hrowW := hrowX
        have HFAR : Hid (t.2 ≠ [] → ea.map (·.block) ≠ ao.map (·.block) ∧ ∀ q, ea.map (·.block) = some q → P q) := hide fun hne => by
          obtain ⟨q, e1, e2, e3⟩ := hfarX.out hne
          refine ⟨fun e => ?_, fun q' e' => ?_⟩
          · have := (hblk q (by rw [← e, e1])).1
            omega
          · rw [e1] at e'; injection e' with e'; rw [← e']; exact e3
        clear hMr2 hdA hdB hx hlx
        have hbx := below_box wr (.cells #[.int .u64 (t.1.toNat : Int), .slice ea en ec] 57)
        have hT := Blk.new wr 57 #[.int .u64 (t.1.toNat : Int), .slice ea en ec]
        have hBx := hbW.trans (hbx.mono hbW.size)
        have hzx := hBx.size
        have hownx := hownW.belowN hbx
        have hrowx := hrowW.out.belowN hbx
        obtain ⟨r0, r1, r2, r3⟩ := hT.c2
        by_cases hc0 : t.1 = 0
        · have e1 : ((t.1.toNat : Int) != 0) = false := by rw [hc0]; rfl
          have e2 : ((t.1.toNat : Int) == 0) = true := by rw [hc0]; rfl
          have HG2 := hide (HG.out.1 hc0)
          clear hc0
          go_wp2
          go_roundw
          case rel => exact ⟨i + 1, k, o, ao, co, hs, out, by go_num, by omega, by go_num, by omega, rfl, by omega, hol.out, hownx, HG2.out, hBx⟩
          case measure => simp [intOf]; omega
        · have e1 : ((t.1.toNat : Int) != 0) = true := by
            simp only [bne_iff_ne, ne_eq]
            exact fun q => hc0 (UInt64.toNat_inj.1 (by simpa using q))
          have e2 : ((t.1.toNat : Int) == 0) = false := by
            simp only [beq_eq_false_iff_ne, ne_eq]
            exact fun q => hc0 (UInt64.toNat_inj.1 (by simpa using q))
          have HG2 := hide (HG.out.2 hc0)
          clear hc0
          go_wp2_with (at_builtin; go_must (refine wpList_push tyT hownx.out ⟨t.1, ea, en, ec⟩ rfl rfl rfl rfl rfl (by simp) HOL.out hzx (by omega) ?_; intro a3 c3 w3 hown3 hg3 hcs3; have hOT := hownx.push hown3 hg3 hcs3 hrowx HFAR.out; have hB3 := below_push hBx hownx.out hg3 hzx))
          go_roundw
          case rel => exact ⟨i + 1, k, o + 1, a3, c3, _, out ++ [t], by go_num, by omega, by go_num, by omega, rfl, by omega, by show _ = _; rw [List.length_append, ← hol.out]; rfl, hOT, HG2.out, hB3⟩
          case measure => simp [intOf]; omega
    · obtain rfl : i = n := by omega
      have hii : ((i : Int) == (i : Int)) = true := by simp
      have hin : ¬ (i : Int) < (i : Int) := by omega
      have hdA : A.drop i = [] := take_succ_drop (by rw [← HN.out]; exact hlt)
      by_cases hlt2 : k < m
      · have hk1 : (k : Int) < (m : Int) := by omega
        obtain ⟨b2, off2, y, fa, fn, fc, rfl, hy, y0, y1, hrowY, hfarY⟩ := h'.getF hb (k := k) (by rw [← HM.out]; exact hlt2)
        have hdB := drop_at hy.out
        have hMr2 := hMr.out
        rw [show mergeT (A.drop i) (B.drop k) = nzT [y] ++ mergeT (A.drop i) (B.drop (k + 1)) by rw [hdB]; exact merge_r (.inl hdA)] at hMr2
        have HG := hide (merge_goes hMr2)
        have z0 := cell_later (below_box wr (.cells #[.int .u64 0, .slice none 0 0] 57)) y0
        have z1 := cell_later (below_box wr (.cells #[.int .u64 0, .slice none 0 0] 57)) y1
        obtain ⟨t, rfl⟩ : ∃ t, t = y := ⟨y, rfl⟩
        have hbW := hb
        have hownW := hown
        have hrowW := hrowY
        have HFAR : Hid (t.2 ≠ [] → fa.map (·.block) ≠ ao.map (·.block) ∧ ∀ q, fa.map (·.block) = some q → P q) := hide fun hne => by
          obtain ⟨q, e1, e2, e3⟩ := hfarY.out hne
          refine ⟨fun e => ?_, fun q' e' => ?_⟩
          · have := (hblk q (by rw [← e, e1])).1
            omega
          · rw [e1] at e'; injection e' with e'; rw [← e']; exact e3
        clear hMr2 hdA hdB hy
        have hbx := below_box wr (.cells #[.int .u64 (t.1.toNat : Int), .slice fa fn fc] 57)
        have hT := Blk.new wr 57 #[.int .u64 (t.1.toNat : Int), .slice fa fn fc]
        have hBx := hbW.trans (hbx.mono hbW.size)
        have hzx := hBx.size
        have hownx := hownW.belowN hbx
        have hrowx := hrowW.out.belowN hbx
        obtain ⟨r0, r1, r2, r3⟩ := hT.c2
        by_cases hc0 : t.1 = 0
        · have e1 : ((t.1.toNat : Int) != 0) = false := by rw [hc0]; rfl
          have e2 : ((t.1.toNat : Int) == 0) = true := by rw [hc0]; rfl
          have HG2 := hide (HG.out.1 hc0)
          clear hc0
          go_wp2
          go_roundw
          case rel => exact ⟨i, k + 1, o, ao, co, hs, out, by go_num, by omega, by go_num, by omega, rfl, by omega, hol.out, hownx, HG2.out, hBx⟩
          case measure => simp [intOf]; omega
        · have e1 : ((t.1.toNat : Int) != 0) = true := by
            simp only [bne_iff_ne, ne_eq]
            exact fun q => hc0 (UInt64.toNat_inj.1 (by simpa using q))
          have e2 : ((t.1.toNat : Int) == 0) = false := by
            simp only [beq_eq_false_iff_ne, ne_eq]
            exact fun q => hc0 (UInt64.toNat_inj.1 (by simpa using q))
          have HG2 := hide (HG.out.2 hc0)
          clear hc0
          go_wp2_with (at_builtin; go_must (refine wpList_push tyT hownx.out ⟨t.1, fa, fn, fc⟩ rfl rfl rfl rfl rfl (by simp) HOL.out hzx (by omega) ?_; intro a3 c3 w3 hown3 hg3 hcs3; have hOT := hownx.push hown3 hg3 hcs3 hrowx HFAR.out; have hB3 := below_push hBx hownx.out hg3 hzx))
          go_roundw
          case rel => exact ⟨i, k + 1, o + 1, a3, c3, _, out ++ [t], by go_num, by omega, by go_num, by omega, rfl, by omega, by show _ = _; rw [List.length_append, ← hol.out]; rfl, hOT, HG2.out, hB3⟩
          case measure => simp [intOf]; omega
      · obtain rfl : k = m := by omega
        have hkk : ¬ (k : Int) < (k : Int) := by omega
        have hdB : B.drop k = [] := take_succ_drop (by rw [← HM.out]; exact hlt2)
        have hMr2 := hMr.out
        rw [hdA, hdB, merge_nil] at hMr2
        have hMo : out = M := by rw [← hMr2]; simp [nzT]
        subst hMo
        clear hMr2 hdA hdB
        have hcap := hown.cap
        go_wp2
        go_ret
        exact ⟨ao, o, co, rfl, hol.out, by rw [hol.out]; exact hcap.1, hcap.2, hown.at_, hb⟩
end Go.Proofs.Ytcamcnahkdiefaa
