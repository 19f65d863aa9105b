/- poly.heap: what comes of a map. -/
import Derived.Test.YtcamcnahkdiefaaPr
import Derived.Test.YtcamcnahkdiefaaRg3
namespace Go.Proofs.Ytcamcnahkdiefaa
set_option linter.unusedVariables false
set_option linter.unusedSimpArgs false
open Go.RowKit Go.Maps
theorem tyS : Ty Try.prog 75 9 (List UInt8) := Ty.of (z := .string ⟨#[]⟩) (size := 1) (bytes := 16) Try.underlying75 (by kernel_rfl) rfl (by decide) rfl
theorem own_ne_iter {H : Type} {P : Program} {k : TypeId} {R : Value → Option (DataW H × List MemPlace)} {w : World} {b r n : Nat} {D : DataW H} {left : Lit → Bool} {cnt base : Nat} {e : TypeId} {a : Option Addr} {c : Nat} {ss : List (List UInt8)}
    (h : Own w base e a c ss) (hr : w.ranges P k R b r n D left cnt) : some r ≠ a.map (·.block) := by
  have := row_ne_iter h.str hr
  cases a <;> exact this
theorem own_ne_low {w : World} {base : Nat} {e : TypeId} {a : Option Addr} {c : Nat} {α : Type} [Flat α] {ss : List α} (h : Own w base e a c ss) {b : Nat} (hb : b < base) : some b ≠ a.map (·.block) := fun e => by
  have := (h.blk b e.symm).1
  omega
theorem owns_size {H : Type} {P : Program} {k : TypeId} {R : Value → Option (DataW H × List MemPlace)} {w : World} {b n : Nat} {D : DataW H} (h : w.ownsMap P k R b n D) : Maps.size D ≤ n := by
  obtain ⟨es, clock, hb, F, hs, rfl⟩ := h
  rw [Maps.size_eq, length_read]
  exact hs
theorem At.getS {w wr : World} {a : Option Addr} {l : List (List UInt8)} (h : At w a l) (hb : Below w.heap.size w wr) {k : Nat} (hk : k < l.length) :
    ∃ b off x, a = some ⟨b, off, none⟩ ∧ Hid (l[k]? = some x) ∧ wr.cell? ⟨b, off + k, none⟩ = some (.string ⟨x.toArray⟩) := by
  obtain ⟨b, off, x, e, hx, hc⟩ := (h.belowN hb).get hk
  exact ⟨b, off, x, e, hx, by simpa [Flat.n] using hc 0 _ rfl⟩
theorem OwnT.setCell {P : Nat → Prop} {w : World} {B : Nat} {a : Option Addr} {c : Nat} {hs : List TmH} {ts : List Tm} (h : OwnT P w B a c hs ts) {g i : Nat} (u : Value) (hg : ¬ P g) (hB : g < B) : OwnT P (w.setCell ⟨g, i, none⟩ u) B a c hs ts :=
  ⟨h.out.setCell hB u, h.len, fun j y t e1 e2 => (h.row j y t e1 e2).grown (grown_setCell w g i u) (fun hne e => hg ((h.far j y t e1 e2 hne).2 g e)), h.far⟩
theorem owns_below {H : Type} {P : Program} {k : TypeId} {R : Value → Option (DataW H × List MemPlace)} {w w' : World} {b n B : Nat} {D : DataW H} (h : w.ownsMap P k R b n D) (hb : Below B w w') (hB : b < B) : w'.ownsMap P k R b n D := by
  obtain ⟨es, clock, h1, F, hs, hD⟩ := h
  exact ⟨es, clock, (hb.block b hB).trans h1, F, hs, hD⟩
theorem HeapM.below {B : Nat} {w w' : World} {g : Nat} {vars : Int} {k : Nat} {D : DMap} (h : HeapM w g vars k D) (hb : Below B w w') (hB : g + 2 < B) : HeapM w' g vars k D :=
  ⟨h.v.below hb (by omega), h.t.below hb hB, owns_below h.m hb (by omega)⟩
def allE (l : List Tm) : Int := if 4096 < (sortT l).length then 20 else 0
def allV (vars : Int) (l : List Tm) : Int := if allE l = 0 then vars else 0
def allL (l : List Tm) : List Tm := if allE l = 0 then sortT l else []
set_option maxRecDepth 100000 in
set_option maxHeartbeats 6400000 in
theorem All_calls (w : World) (g : Nat) (vars : Int) (n : Nat) (l : List Tm) (hH : HeapT w g vars n l) (hl : l.length ≤ 100000000) (hlen : LenT n l) (hin : ∀ t ∈ l, InE t.2) (hn6 : n ≤ 1000000) (V : Int) (L : List Tm) (E : Int) (hV : allV vars l = V) (hL : allL l = L) (hE : allE l = E) :
    Calls Try.prog 53 #[.pointer (some ⟨g + 2, 0, none⟩), .pointer (some ⟨g, 0, none⟩)] w (PolyOut V L E w) := by
  obtain ⟨D, hM, hI⟩ := hH
  obtain ⟨m0, m1⟩ := hM.t.c1
  obtain ⟨v0, v1⟩ := hM.v.c1
  have hgl := hM.t.lt
  have hb0 := below_box w (.cells #[.int .i64 0, .slice none 0 0] 24)
  have hX := Blk.new w 24 #[.int .i64 0, .slice none 0 0]
  have hM0 := hM.belowN hb0
  have hsz : Maps.size D ≤ l.length := owns_size hM.m
  have HI := hide hI
  have HIN := hide hin
  have HLN := hide hlen
  have m2 := cell_later hb0 m0
  have v2 := cell_later hb0 v0
  unfold allV at hV
  unfold allL at hL
  rw [hE] at hV hL
  unfold allE at hE
  have HE := hide hE
  have HM := hide hM
  have HM0 := hide hM0
  clear hE hI hin hlen hM hM0
  go_enter Try.func53, Try.ntmps53
  go_wp2_with (at_range; go_must (refine wpList_range_own _ rfl _ 73 rfl 9 33 lawS Try.underlying73 _ (g + 1) l.length D rfl HM0.out.m ?_; intro w0 hrg0 hg0 hs0))
  go_frame
  obtain ⟨r, hr⟩ : ∃ r, r = (w.alloc (.cells #[.int .i64 0, .slice none 0 0] 24)).heap.size := ⟨_, rfl⟩
  rw [← hr] at hrg0 ⊢
  have hrz : w.heap.size < r := by rw [hr]; simp
  have hbg0 := hb0.trans ((below_of_grown hg0).mono hb0.size)
  have HZ0 := hide (show r < w0.heap.size by rw [hs0, hr]; omega)
  have hX0 := hX.belowN (below_of_grown hg0)
  clear hr hs0 hg0 hX
  go_loopw [4] (fun kv wr => ∃ (left : Lit → Bool) (cnt m kc : Nat) (ka : Option Addr) (ss : List (List UInt8)), kv = .slice ka m kc ∧ Hid (m = ss.length) ∧ wr.ranges Try.prog 9 (plainElem Try.prog 33) (g + 1) r l.length D left cnt ∧ ss.length + cnt ≤ Maps.size D ∧
      Own wr (w.heap.size + 1) 9 ka kc ss ∧ CollNZ D left ss ∧ Below (w.heap.size + 1) w0 wr ∧ Below w.heap.size w wr) (fun _ wr => wr.rangeLeft (g + 1) r)
  case atStart => exact ⟨_, _, 0, 0, none, [], rfl, rfl, hrg0, by simp, Own.none _ _ _, CollNZ.start D, Below.refl _ _, hbg0⟩
  case round =>
    obtain ⟨left, cnt, m, kc, ka, ss, rfl, hm, hrg, hcs, hown, hC, hbx, hb⟩ := hrel
    have hzr := hb.size
    have hzr1 : w.heap.size + 1 ≤ wr.heap.size := by have := hbx.size; have := HZ0.out; omega
    go_wp2_with (at_next; go_must (refine wpList_next_ranges _ rfl _ rfl 9 lawS (plainElem Try.prog 33) encStr (Value.int .u64) (fun key kl hk => by obtain ⟨x, hx, _⟩ := Maps.keyOf_str Try.underlying9 hk; exact ⟨x, hx⟩) (fun v y hv => by obtain ⟨c, rfl, _⟩ := plainElem_int_inv Try.underlying33 hv; exact ⟨c, rfl⟩) (g + 1) r l.length _ _ _ rfl hrg ?_ ?_))
    · intro hc0 hl0
      have HO := hide (heap_out HI.out HLN.out HIN.out hC hl0)
      have hsl : m = (sortT l).length := by rw [hm.out, ← HO.out, outT_len]
      have hE := HE.out
      rw [← hsl] at hE
      have HSL := hide hsl
      have hXr := hX0.below hbx (Nat.lt_succ_self _)
      have HMr : Hid (HeapM wr g vars l.length D) := hide ⟨HM.out.v.belowN hb, HM.out.t.belowN hb, hrg.owns⟩
      have hkk : ∀ x ∈ ss, ∃ e, e.length = n ∧ InE e ∧ x = keyB e := fun x hx => HI.out.keys x ((hC.2 x).1 hx).1
      have HKK := hide hkk
      obtain ⟨x0, x1, x2, x3⟩ := hXr.c2
      clear hsl hkk hC hl0 hc0 hcs
      by_cases hbig : 4096 < m
      · rw [if_pos hbig] at hE
        subst hE
        rw [if_neg (by decide)] at hV hL
        subst hV hL
        have hbg : (4096 : Int) < (m : Int) := by omega
        go_wp2
        have hF6 := (hXr.set_ 0 (.int .i64 0)).set_ 1 (.slice none 0 0)
        refine bodyPost_ret (results_rowP rfl _ _ (w.heap.size) _ #[.int .i64 0, .slice none 0 0] (0, 0) _ rfl hF6 Try.underlying24 rfl (by kernel_rfl)) rfl ?_
        exact PolyOut.bad _ _ _ ((hb.setCell (p := ⟨w.heap.size, 0, none⟩) (Nat.le_refl _) (.int .i64 0)).setCell (p := ⟨w.heap.size, 1, none⟩) (Nat.le_refl _) (.slice none 0 0))
      · rw [if_neg hbig] at hE
        subst hE
        rw [if_pos rfl] at hV hL
        subst hV hL
        have hbg : ¬ (4096 : Int) < (m : Int) := by omega
        have HS := hide (SortS_calls wr _ _ ka m kc ss hm.out hown (by omega))
        have HR := hide (fun (W : World) (k : Own W (w.heap.size + 1) 9 ka kc (ss.mergeSort leB)) => RevS_calls W _ _ ka m kc _ (by rw [hm.out]; simp) k)
        have hmb : m ≤ 4096 := by omega
        clear hbig
        go_wp2_with (first
          | (go_at_call 54; go_must ((with_reducible refine (HS.out).mono ?_); rintro v wS ⟨rfl, hownS, hgS⟩))
          | (go_at_call 55; go_must ((with_reducible refine (HR.out _ hownS).mono ?_); rintro v wA ⟨rfl, hownA, hgA⟩; have hgSA := grown_trans hgS hgA; have hMA := HMr.out.grown hgSA (fun j hj => by have := (hown.blk j hj).1; omega); obtain ⟨a0, a1⟩ := hMA.v.c1)))
        have hbA := hb.grown hgSA hzr (fun j hj => by have := (hown.blk j hj).1; omega)
        have hzA := hbA.size
        have hXA := hXr.grown hgSA (fun e => by have := (hown.blk _ e.symm).1; omega)
        have hKA := hownA.at_
        have hGP := Blk.new wA 24 #[.int .i64 vars, .slice none 0 0]
        have hbP := below_box wA (.cells #[.int .i64 vars, .slice none 0 0] 24)
        have hgA2 : g + 2 < wA.heap.size := by omega
        have HKL : Hid (m = (downK ss).length) := by show _ = _; rw [hm.out]; simp [downK]
        obtain ⟨gp, hgp⟩ : ∃ gp, gp = wA.heap.size := ⟨_, rfl⟩
        have HGP := hide hgp
        rw [← hgp] at hGP ⊢
        have hgp1 : w.heap.size < gp := by have := hXA.lt; omega
        clear hgSA hgA hgS hownS hownA hgp hX0 hXr x0 x1 x2 x3 hown hbx hrg hrg0
        go_loopw [35] (fun iv wq => ∃ (k c : Nat) (a : Option Addr) (hs : List TmH), iv = .int .i64 k ∧ k ≤ m ∧ Blk wq gp 24 #[.int .i64 vars, .slice a k c] ∧ OwnT (fun q => gp < q) wq (gp + 1) a c hs ((sortT l).take k) ∧ Below wA.heap.size wA wq ∧ gp < wq.heap.size) (fun iv _ => m - (intOf iv).toNat)
        case atStart => exact ⟨0, 0, none, [], rfl, by omega, hGP, OwnT.nil (Own.none _ _ _), hbP, hGP.lt⟩
        case round =>
          obtain ⟨k, c, a, hs, rfl, hk, hG, hOT, hbq, hgq⟩ := hrel
          have hzq := hbq.size
          obtain ⟨g0, g1, g2, g3⟩ := hG.c2
          by_cases hlt : k < m
          · obtain ⟨b1, off1, x, rfl, hx, x0⟩ := hKA.getS hbq (k := k) (show k < (downK ss).length by rw [← HKL.out]; exact hlt)
            have hk0 : (0 : Int) ≤ (k : Int) := by omega
            have hk1 : (k : Int) < (m : Int) := by omega
            obtain ⟨e, he1, he2, he3⟩ := HKK.out x (mem_downK.1 (List.mem_of_getElem? hx.out))
            have htk : (sortT l)[k]? = some (cOf D x, e) := by
              rw [← HO.out]
              unfold outT
              rw [List.getElem?_map, show (downK ss)[k]? = some x from hx.out]
              show some (cOf D x, powB x) = _
              rw [he3, powB_keyB he2]
            obtain ⟨t, ht⟩ : ∃ t : Tm, t = (cOf D x, e) := ⟨_, rfl⟩
            have ht1 : cOf D x = t.1 := by rw [ht]
            have ht2 : e = t.2 := by rw [ht]
            rw [← ht] at htk
            subst ht2
            have HTK := hide (show (sortT l).take (k + 1) = (sortT l).take k ++ [t] by rw [List.take_add_one, htk]; rfl)
            have hMq : HeapM wr g vars l.length D := hMA.belowN hbq
            obtain ⟨q0, q1⟩ := hMq.t.c1
            have hxl : x.length ≤ maxLen := by rw [he3, keyB_len]; unfold maxLen; omega
            have HLK : Hid (∀ W, Below (gp + 1) wr W → (Instr.lookup 73 (.map (some (g + 1))) (.string ⟨x.toArray⟩) false).run Try.prog W = .ok (.int .u64 (t.1.toNat : Int)) W) := hide (fun W kb => by
              obtain ⟨c0, hlk, hc0, _⟩ := (hMq.below kb (by omega)).m.lookup_int lawS Try.underlying73 Try.underlying33 (zeroU _) (hkeyS hxl)
              have h9 := HI.out.at_ t.2 he1 he2
              rw [← he3] at h9
              have h8 := lit_u64 (hc0.symm.trans h9)
              have h7 := HI.out.cOf he1 he2
              rw [← he3, ht1] at h7
              rw [h8, ← h7] at hlk
              exact hlk)
            have HPW := hide (fun W => Powers_calls t.2 ⟨x.toArray⟩ (by rw [he3]) W he2 (by omega))
            have HEN : Hid (t.2.length = n) := hide he1
            obtain ⟨en, hen⟩ : ∃ en, t.2.length = en := ⟨_, rfl⟩
            rw [hen] at HPW
            have HEN2 := hide hen
            have hen6 : en ≤ 9223372036854775807 := by omega
            have hBw := Below.drew (Below.refl wr.heap.size wr)
            have hBw1 : Below (gp + 1) wr wr.drew := hBw.mono (by omega)
            have HHL : Hid (k = hs.length) := by show _ = _; rw [hOT.len, List.length_take, ← HSL.out]; omega
            obtain ⟨S', hS'⟩ : ∃ S' : World → Prop, S' = fun w' => w'.cell? ⟨gp, 1, none⟩ = some (.slice a k c) ∧ w'.cell? ⟨g + 2, 0, none⟩ = some (.map (some (g + 1))) ∧ (Instr.lookup 73 (.map (some (g + 1))) (.string ⟨x.toArray⟩) false).run Try.prog w' = .ok (.int .u64 (t.1.toNat : Int)) w' := ⟨_, rfl⟩
            have HSE : Hid (∀ w', S' w' → w'.cell? ⟨gp, 1, none⟩ = some (.slice a k c) ∧ w'.cell? ⟨g + 2, 0, none⟩ = some (.map (some (g + 1))) ∧ (Instr.lookup 73 (.map (some (g + 1))) (.string ⟨x.toArray⟩) false).run Try.prog w' = .ok (.int .u64 (t.1.toNat : Int)) w') := hide (fun w' h => by rw [hS'] at h; exact h)
            have HSI : Hid (∀ w4, Below (gp + 1) wr w4 → S' w4) := hide (fun w4 hb4 => by
              rw [hS']
              exact ⟨(hG.below hb4 (Nat.lt_succ_self _)).c2.2.1, (hMq.t.below hb4 (by omega)).c1.1, HLK.out _ hb4⟩)
            have HMG := hide hG
            have HOT := hide hOT
            clear he1 he3 ht ht1 htk hx hen hOT hMq hG hS' q0 q1
            go_wp2
            refine wp_region_list [0, 1, 2, 3, 4, 5] [6, 7, 8, 9] [10, 11] S' (by kernel_rfl) (by kernel_rfl) (HSI.out _ hBw1) ?_
            simp only [pickL, List.filterMap_cons, List.filterMap_nil, List.getElem?_cons_succ, List.getElem?_cons_zero]
            iterate 6
              apply headK_step (by rfl)
              · intro w' hw'
                obtain ⟨s0, s1, s2⟩ := HSE.out w' hw'
                go_simp
                rfl
              intro a' ha'
              simp only [Act.put, List.setIfInBounds_toArray, List.set_cons_succ, List.set_cons_zero] at ha'
              subst ha'
            refine headK_nil ?_
            rw [midK]
            intro K0 hK0
            have HK0 := hide hK0
            clear hK0
            go_simp
            go_at_call 56
            refine (HPW.out _).mono ?_
            rintro v w5 ⟨a5, rfl, hown5, hb5⟩
            have hB5 := hBw.trans (hb5.mono hBw.size)
            have hB51 : Below (gp + 1) wr w5 := hB5.mono (by omega)
            refine HK0.out _ _ (HSI.out _ hB51) ?_
            clear HK0
            rw [midK]
            intro K0 hK0
            have HK0 := hide hK0
            clear hK0
            go_simp
            refine HK0.out _ _ (HSI.out _ hB51) ?_
            clear HK0
            rw [midK]
            intro K0 hK0
            have HK0 := hide hK0
            clear hK0
            go_simp
            have hz5 := hB5.size
            have hbx9 := below_box w5 (.cells #[.int .u64 (t.1.toNat : Int), .slice (some a5) en en] 57)
            have hB9 := hB51.trans (hbx9.mono (show gp + 1 ≤ w5.heap.size by omega))
            refine HK0.out _ _ (HSI.out _ hB9) ?_
            clear HK0
            rw [midK]
            intro K0 hK0
            have HK0 := hide hK0
            clear hK0
            have hO5 := HOT.out.belowN hB5
            have hz9 : gp + 1 ≤ (w5.alloc (.cells #[.int .u64 (t.1.toNat : Int), .slice (some a5) en en] 57)).heap.size := by rw [World.size_alloc]; omega
            refine step_pushAll tyT (hO5.out.alloc _) (l2 := [(⟨t.1, some a5, en, en⟩ : TmH)]) (At.ofBlk (Blk.new w5 _ #[.int .u64 (t.1.toNat : Int), .slice (some a5) en en]) _ rfl) rfl rfl rfl rfl HHL.out rfl hz9 (by omega) (by decide) ?_
            intro a6 c6 w6 hown6 hg6 hcs6
            have hB6 := below_push hB9 (hO5.out.alloc _) hg6 hz9
            refine HK0.out _ _ (HSI.out _ hB6) ?_
            clear HK0 HSE HSI
            rw [midK]
            have hG6 := HMG.out.below hB6 (Nat.lt_succ_self _)
            obtain ⟨s6, s7, s8, s9⟩ := hG6.c2
            have hOT6 := (hO5.belowN hbx9).push hown6 hg6 hcs6 (y := ⟨t.1, some a5, en, en⟩) (t := t) ⟨rfl, HEN2.out.symm, Nat.le_refl _, hen6, (hown5.belowN hbx9).at_⟩ (fun hne => by
              have h7 := (hown5.blk a5.block rfl).1
              have h8 : wr.drew.heap.size = wr.heap.size := rfl
              refine ⟨fun e => ?_, fun q e => ?_⟩
              · have h10 : a5.block < wr.heap.size := (HOT.out.out.blk a5.block e.symm).2
                omega
              · have e9 : a5.block = q := Option.some.inj e
                omega)
            have hF6 := hG6.set_ 1 (.slice a6 (k + 1) c6)
            have hb6 := hbq.trans (hB6.mono (show wA.heap.size ≤ gp + 1 by rw [← HGP.out]; omega))
            go_wp2
            refine NoPanic.normal ?_
            go_wp2
            go_roundw
            case rel =>
              have hOT7 := hOT6.setCell (g := gp) (i := 1) (.slice a6 (k + 1) c6) (by omega) (Nat.lt_succ_self _)
              rw [← HTK.out] at hOT7
              exact ⟨k + 1, c6, a6, _, by go_num, by omega, hF6, hOT7, hb6.setCell (p := ⟨gp, 1, none⟩) (by rw [← HGP.out]; exact Nat.le_refl _) _, by rw [World.size_setCell]; exact hG6.lt⟩
            case measure => simp [intOf]; omega
          · obtain rfl : k = m := by omega
            rw [List.take_of_length_le (by rw [← HSL.out]; exact Nat.le_refl _)] at hOT
            have hXq := hXA.belowN hbq
            obtain ⟨x0, x1, x2, x3⟩ := hXq.c2
            have hbW := hbA.trans (hbq.mono hzA)
            go_wp2
            have hF6 := (hXq.set_ 0 (.int .i64 vars)).set_ 1 (.slice a k c)
            refine bodyPost_ret (results_rowP rfl _ _ (w.heap.size) _ #[.int .i64 vars, .slice a k c] (0, 0) _ rfl hF6 Try.underlying24 rfl (by kernel_rfl)) rfl ?_
            have hT := hOT.out_ (n := k) HSL.out
            refine ⟨a, k, c, rfl, ((hT.setCell _ (by omega)).setCell _ (by omega)).imp (fun q hq => by omega), (hbW.setCell (p := ⟨w.heap.size, 0, none⟩) (Nat.le_refl _) _).setCell (p := ⟨w.heap.size, 1, none⟩) (Nat.le_refl _) _⟩
    · intro x c kl yd yp w2 cnt2 hkey hlk hv hat hrg2 hlt hg2 hs2 hen
      obtain ⟨x', ex, rfl, hxl⟩ := Maps.keyOf_str Try.underlying9 hkey
      obtain rfl : x = x' := encStr_inj ex
      obtain ⟨c', ec, ey, hwc⟩ := plainElem_int_inv Try.underlying33 hv
      injection ec with _ ec
      subst ec
      injection ey with ey _
      subst ey
      have hown2 := hown.grown hg2 (.inr (fun e => own_ne_iter hown hrg e.symm))
      have hb2 := hb.grown hg2 hzr (fun j hj => by cases hj; omega)
      have hbx2 := hbx.grown hg2 (by have := hbx.size; have := HZ0.out; omega) (fun j hj => by cases hj; omega)
      have hz2 := hb2.size
      have hz21 : w.heap.size + 1 ≤ w2.heap.size := by have := hbx2.size; have := HZ0.out; omega
      replace hat : ∀ zd, D.atKey (.string x) zd = .lit (.int .u64 c) := hat
      clear hs2
      by_cases hcz : c = 0
      · have e1 : (c != 0) = false := by simp [hcz]
        have e2 : (c == 0) = true := by simp [hcz]
        have hC2 := hC.out hlk (by rw [hcz] at hat; exact hat)
        clear hcz
        go_wp2
        go_roundw
        case rel => exact ⟨_, cnt2, m, kc, ka, ss, rfl, hm.out, hrg2, by omega, hown2, hC2, hbx2, hb2⟩
        case measure => rw [hrg2.left_eq, hrg.left_eq]; exact hlt
      · have e1 : (c != 0) = true := by simpa using hcz
        have e2 : (c == 0) = false := by simpa using hcz
        have hC2 := hC.in_ hlk hat hcz
        have hm9 : m ≤ 1000000000 := by rw [hm.out]; omega
        clear hcz
        go_wp2_with (at_builtin; go_must (refine wpList_push tyS hown2 x rfl rfl rfl rfl rfl rfl hm.out hz21 hm9 ?_; intro a3 c3 w3 hown3 hg3 hm3; go_frame))
        have hgx : w2.grownBy w3 (ka.map (·.block)) := hg3
        have hrg3 := hrg2.kept hgx (own_ne_low hown2 (by omega)) (own_ne_iter hown2 hrg2)
        go_roundw
        case rel => exact ⟨_, cnt2, m + 1, c3, a3, ss ++ [x], rfl, by show _ = _; rw [List.length_append, ← hm.out]; rfl, hrg3, by rw [List.length_append]; simp; omega, hown3, hC2, below_push hbx2 hown2 hg3 hz21, hb2.grown hg3 hz2 (fun j hj => by have := (hown2.blk j hj).1; omega)⟩
        case measure => rw [hrg3.left_eq, hrg.left_eq]; exact hlt
end Go.Proofs.Ytcamcnahkdiefaa
