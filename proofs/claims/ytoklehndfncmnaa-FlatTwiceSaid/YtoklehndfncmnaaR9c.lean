/- Chapter 9, the document's answers: Writes, Sizes, Rounds, walked. -/
import Derived.Test.YtoklehndfncmnaaR9b
namespace Go.Proofs.Ytoklehndfncmnaa
set_option linter.unusedVariables false
set_option linter.unusedSimpArgs false
open Go.RowKit

section
variable {a am : Option Addr} {c cm : Nat} {l : List OpD}
theorem within_m (hl : l.length ≤ 1000000) (b : Fo) (o : Nat) (F T : Int) (w : World) (hF : F = (o : Int)) (hT : T = ((o + b.size : Nat) : Int)) (h : At w a l) (hm : At w am (matchL l)) (hs : Stands l (matchL l) o b) :
    Calls Try.prog 77 #[.slice a l.length c, .slice am l.length cm, .int .i64 F, .int .i64 T] w fun e w' => e = .returned (.int .i64 (capW b.wr)) ∧ Below w.heap.size w w' := by
  have := within9_all (a := a) (am := am) (c := c) (cm := cm) (l := l) (m := matchL l) hl (b.size + 1) b (by omega) o F T w hF hT h hm hs
  rwa [matchL_length] at this
theorem block_m (hl : l.length ≤ 1000000) (o : Nat) (op fin : OpD) (b r : Fo) (w : World) (h : At w a l) (hm : At w am (matchL l)) (hs : Stands l (matchL l) o (.rep op b fin r)) :
    Calls Try.prog 66 #[.slice a l.length c, .slice am l.length cm, .int .i64 (o : Int)] w fun e w' => e = .returned (.int .i64 (capW (b.wr * op.v.toNat))) ∧ Below w.heap.size w w' := by
  have := Block9_of (c := c) (cm := cm) o op fin b r w h hm hl hs (within9_all hl (b.size + 1) b (by omega))
  rwa [matchL_length] at this
end
theorem capW_le {n : Nat} (h : n ≤ 65536) : capW n = (n : Int) := by unfold capW; rw [Nat.min_eq_left (by omega)]
theorem capW_gt {n : Nat} (h : ¬ n ≤ 65536) : capW n = 65537 := by unfold capW; rw [Nat.min_eq_right (by omega)]; rfl

/-- Two facts on a place of well nested operations. -/
theorem place9 {f : Fo} (hf : f.ok) {k : Nat} {x : OpD} (hx : f.flat[k]? = some x) :
    (x.kind = 7 ∧ ∃ b fin r, Stands f.flat (matchL f.flat) k (.rep x b fin r) ∧ f.sizes[k]? = some ((b.wr * x.v.toNat : Nat) : Int) ∧ f.rounds[k]? = some (b.wr : Int) ∧ (matchL f.flat)[k]? = some ((k + 1 + b.size : Nat) : Int)) ∨
     (x.kind = 0 ∧ f.sizes[k]? = some 0 ∧ f.rounds[k]? = some 0) ∨ (1 ≤ x.kind ∧ x.kind ≤ 6 ∧ f.sizes[k]? = some 1 ∧ f.rounds[k]? = some 0) := by
  have hk : k < f.size := (List.getElem?_eq_some_iff.1 hx).1
  obtain ⟨y, h1, h2, h3⟩ := Stands.at_ f (Stands.whole hf) k hk
  obtain rfl : x = y := by have := hx.symm.trans h1; simpa using this
  rw [Nat.zero_add] at h3
  rcases h3 with ⟨h7, b, fin, r, hs, e1, e2⟩ | h3 | h3
  · refine .inl ⟨h7, b, fin, r, hs, e1, e2, ?_⟩
    have := hs.rep.2.2.1
    rw [this]
    congr 2
    omega
  · exact .inr (.inl h3)
  · exact .inr (.inr h3)
theorem may_all {f : Fo} (hf : f.ok) (h : f.may = true) {k : Nat} {op fin : OpD} {b r : Fo} (hs : Stands f.flat (matchL f.flat) k (.rep op b fin r)) : b.wr ≤ 65536 ∧ b.wr * op.v.toNat ≤ 65536 := by
  have h1 := (may_stands f (Stands.whole hf)).1 h k op b fin r (by omega) ?_ hs
  · exact h1
  · have := hs.lt.1
    rw [Fo.size_rep] at this
    simp only [Fo.size] at *
    omega
theorem may_of_all {f : Fo} (hf : f.ok) (h : ∀ k op b fin r, k < f.flat.length → Stands f.flat (matchL f.flat) k (.rep op b fin r) → b.wr ≤ 65536 ∧ b.wr * op.v.toNat ≤ 65536) : f.may = true :=
  (may_stands f (Stands.whole hf)).2 fun i op b fin r _ h2 hs => h i op b fin r (by simp only [Fo.size] at h2; omega) hs
theorem Stands.same {l : List OpD} {m : List Int} {o : Nat} {op x : OpD} {b fin r} (h : Stands l m o (.rep op b fin r)) (hx : l[o]? = some x) : op = x := by
  have := h.rep.1.symm.trans hx; simpa using this

set_option maxRecDepth 100000 in
set_option maxHeartbeats 1600000 in
theorem Writes9_calls (a : Option Addr) (c : Nat) (l : List OpD) (w : World) (h : At w a l) (hl : l.length ≤ 1000000) :
    Calls Try.prog 65 #[.slice a l.length c] w fun e w' => e = .returned (.tuple #[.int .i64 (sizeW l), .int .i64 (sizeE l)]) ∧ Below w.heap.size w w' := by
  cases hw : well l with
  | false =>
    obtain ⟨e1, e2, _⟩ := size_bad hw
    rw [e1, e2]
    have HW := hide hw
    clear e1 e2 hw
    go_enter Try.func65, Try.ntmps65
    go_wp2_with (go_at_call 36; refine (Match8N a c l _ h hl HW.out).mono ?_; rintro e w1 ⟨a1, c1, rfl, hbel1⟩)
    go_ret2
    exact ⟨rfl, hbel1⟩
  | true =>
    obtain ⟨f, hf, rfl⟩ := forest_of_well l hw
    obtain ⟨W, hW⟩ : ∃ W, W = sizeW f.flat := ⟨_, rfl⟩
    obtain ⟨E, hE⟩ : ∃ E, E = sizeE f.flat := ⟨_, rfl⟩
    have hbad : ¬ (f.may = true ∧ f.wr ≤ 65536) → W = 0 ∧ E = 9 := by intro hn; rw [hW, hE, sizeE_flat hf, (sizes_flat hf).1, if_neg hn, if_neg hn]; exact ⟨rfl, rfl⟩
    have hgood : f.may = true ∧ f.wr ≤ 65536 → W = f.wr ∧ E = 0 := by intro hn; rw [hW, hE, sizeE_flat hf, (sizes_flat hf).1, if_pos hn, if_pos hn]; exact ⟨rfl, rfl⟩
    rw [← hW, ← hE]
    have HBAD := hide hbad
    have HGOOD := hide hgood
    have HW := hide hw
    clear hW hE hbad hgood hw
    go_enter Try.func65, Try.ntmps65
    go_wp2_with (go_at_call 36; refine (Match8W a c f.flat _ h hl HW.out).mono ?_; rintro e w1 ⟨am, cm, rfl, hown1, hbel1⟩; have hat1 := hown1.at_; have hz1 := hbel1.size)
    have hl1 := h.belowN hbel1
    go_loopw [6] (fun i wr => ∃ k : Nat, i = .int .i64 k ∧ k ≤ f.flat.length ∧ Hid (∀ j op b fin r, j < k → Stands f.flat (matchL f.flat) j (.rep op b fin r) → b.wr ≤ 65536 ∧ b.wr * op.v.toNat ≤ 65536) ∧ Below w1.heap.size w1 wr) (fun i _ => f.flat.length - (intOf i).toNat)
    case atStart => exact ⟨0, rfl, by omega, hide (fun j op b fin r hj => absurd hj (by omega)), Below.refl _ _⟩
    case round =>
      obtain ⟨k, rfl, hk, hall, hbr⟩ := hrel
      have hbw := hbel1.trans (hbr.mono hz1)
      by_cases hlt : k < f.flat.length
      · obtain ⟨b1, off1, x, rfl, hx, x0, x1, x2, x3, x4⟩ := hl1.getOp hbr hlt
        obtain ⟨b2, off2, y, rfl, hy, y0⟩ := hat1.getI hbr (show k < (matchL f.flat).length by rw [matchL_length]; exact hlt)
        have hyl := World.block_lt_of_cell? _ _ y0
        rcases place9 hf hx.out with ⟨h7, b, fin, r, hs, e1, e2, e3⟩ | ⟨h0, _⟩ | ⟨h1, h2, _⟩
        · obtain ⟨Z, hZ⟩ : ∃ Z : Nat, Z = k + 1 + b.size := ⟨_, rfl⟩
          rw [← hZ] at e3
          obtain rfl : y = (Z : Int) := by have := hy.out.symm.trans e3; simpa using this
          have k7 : (x.kind == 7) = true := by simp [h7]
          have HS := hide hs
          have HBL := hide (fun w' (g1 : At w' (some ⟨b1, off1, none⟩) f.flat) (g2 : At w' (some ⟨b2, off2, none⟩) (matchL f.flat)) => block_m (c := c) (cm := cm) hl k x fin b r w' g1 g2 hs)
          have HWI := hide (fun w' (g1 : At w' (some ⟨b1, off1, none⟩) f.flat) (g2 : At w' (some ⟨b2, off2, none⟩) (matchL f.flat)) => within_m (c := c) (cm := cm) hl b (k + 1) ((k : Int) + 1) (Z : Int) w' (by omega) (by omega) g1 g2 hs.rep.2.2.2.2.2.2.1)
          have hlr := hl1.belowN hbr
          have hmr := hat1.belowN hbr
          clear hs e1 e2 e3 hx hy h7 hZ
          by_cases c1 : b.wr * x.v.toNat ≤ 65536
          · rw [capW_le c1] at HBL
            have HC1 := hide c1
            obtain ⟨q, hq⟩ : ∃ q : Nat, q = b.wr * x.v.toNat := ⟨_, rfl⟩
            rw [← hq] at HBL
            have hq6 : q ≤ 65536 := by omega
            clear hq c1
            by_cases c2 : b.wr ≤ 65536
            · rw [capW_le c2] at HWI
              have HC2 := hide c2
              obtain ⟨p, hp⟩ : ∃ p : Nat, p = b.wr := ⟨_, rfl⟩
              rw [← hp] at HWI
              have hp6 : p ≤ 65536 := by omega
              clear hp c2
              go_wp2_with (first
                | (go_at_call 66; ((with_reducible refine (HBL.out _ hlr hmr).mono ?_); rintro e w2 ⟨rfl, hb2⟩; have y0' := (hb2.cell (p := ⟨b2, off2 + k, none⟩) hyl).trans y0; have hlr2 := hlr.belowN hb2; have hmr2 := hmr.belowN hb2))
                | (go_at_call 77; ((with_reducible refine (HWI.out _ hlr2 hmr2).mono ?_); rintro e w3 ⟨rfl, hb3⟩)))
              go_roundw
              case rel =>
                refine ⟨k + 1, by go_num, by omega, hide (fun j op b' fin' r' hj hs' => ?_), hbr.trans ((hb2.trans (hb3.mono hb2.size)).mono hbr.size)⟩
                by_cases hjk : j < k
                · exact hall.out j op b' fin' r' hjk hs'
                · obtain rfl : j = k := by omega
                  obtain ⟨rfl, rfl⟩ := hs'.one HS.out
                  exact ⟨HC2.out, HC1.out⟩
              case measure => simp [intOf]; omega
            · rw [capW_gt c2] at HWI
              have HC2 := hide c2
              clear c2
              go_wp2_with (first
                | (go_at_call 66; ((with_reducible refine (HBL.out _ hlr hmr).mono ?_); rintro e w2 ⟨rfl, hb2⟩; have y0' := (hb2.cell (p := ⟨b2, off2 + k, none⟩) hyl).trans y0; have hlr2 := hlr.belowN hb2; have hmr2 := hmr.belowN hb2))
                | (go_at_call 77; ((with_reducible refine (HWI.out _ hlr2 hmr2).mono ?_); rintro e w3 ⟨rfl, hb3⟩)))
              go_ret2
              obtain ⟨e1, e2⟩ := HBAD.out (fun hn => HC2.out (may_all hf hn.1 HS.out).1)
              exact ⟨by rw [e1, e2] <;> rfl, hbw.trans ((hb2.trans (hb3.mono hb2.size)).mono hbw.size)⟩
          · rw [capW_gt c1] at HBL
            have HC1 := hide c1
            clear c1
            go_wp2_with (first
                | (go_at_call 66; ((with_reducible refine (HBL.out _ hlr hmr).mono ?_); rintro e w2 ⟨rfl, hb2⟩)))
            go_ret2
            obtain ⟨e1, e2⟩ := HBAD.out (fun hn => HC1.out (may_all hf hn.1 HS.out).2)
            exact ⟨by rw [e1, e2] <;> rfl, hbw.trans (hb2.mono hbw.size)⟩
        all_goals
          have k7 : (x.kind == 7) = false := by simp; omega
          have HX := hide hx.out
          have H7 : Hid (x.kind ≠ 7) := by show x.kind ≠ 7; omega
          clear hx
          go_wp2
          go_roundw
          case rel =>
            refine ⟨k + 1, by go_num, by omega, hide (fun j op b' fin' r' hj hs' => ?_), hbr⟩
            by_cases hjk : j < k
            · exact hall.out j op b' fin' r' hjk hs'
            · obtain rfl : j = k := by omega
              exact absurd (by rw [← hs'.same HX.out]; exact hs'.rep.2.1) H7.out
          case measure => simp [intOf]; omega
      · obtain rfl : k = f.flat.length := by omega
        have hmay : f.may = true := may_of_all hf (fun j op b fin r hj hs => hall.out j op b fin r hj hs)
        have HWI := hide (fun w' (g1 : At w' a f.flat) (g2 : At w' am (matchL f.flat)) => within_m (c := c) (cm := cm) hl f 0 0 (f.flat.length : Int) w' rfl (by simp [Fo.size]) g1 g2 (Stands.whole hf))
        have hlr := hl1.belowN hbr
        have hmr := hat1.belowN hbr
        have HM := hide hmay
        clear hmay
        by_cases c2 : f.wr ≤ 65536
        · rw [capW_le c2] at HWI
          have HG := hide (HGOOD.out ⟨HM.out, c2⟩)
          obtain ⟨p, hp⟩ : ∃ p : Nat, p = f.wr := ⟨_, rfl⟩
          rw [← hp] at HWI HG
          have hp6 : p ≤ 65536 := by omega
          clear hp c2
          go_wp2_with (go_at_call 77; ((with_reducible refine (HWI.out _ hlr hmr).mono ?_); rintro e w3 ⟨rfl, hb3⟩))
          go_ret2
          exact ⟨by rw [HG.out.1, HG.out.2] <;> rfl, hbw.trans (hb3.mono hbw.size)⟩
        · rw [capW_gt c2] at HWI
          have HG := hide (HBAD.out (fun hn => c2 hn.2))
          clear c2
          go_wp2_with (go_at_call 77; ((with_reducible refine (HWI.out _ hlr hmr).mono ?_); rintro e w3 ⟨rfl, hb3⟩))
          go_ret2
          exact ⟨by rw [HG.out.1, HG.out.2] <;> rfl, hbw.trans (hb3.mono hbw.size)⟩

/-- what Writes tells, when sizes may be -/
theorem W9_ok {f : Fo} (hf : f.ok) (h : f.may = true ∧ f.wr ≤ 65536) : sizeE f.flat = 0 ∧ sizeW f.flat = f.wr ∧ sizeZ f.flat = f.sizes ∧ sizeR f.flat = f.rounds := by
  rw [sizeE_flat hf, (sizes_flat hf).1, (sizes_flat hf).2.1, (sizes_flat hf).2.2, if_pos h, if_pos h, if_pos h, if_pos h]; exact ⟨rfl, rfl, rfl, rfl⟩
theorem W9_no {f : Fo} (hf : f.ok) (h : ¬ (f.may = true ∧ f.wr ≤ 65536)) : sizeE f.flat = 9 ∧ sizeW f.flat = 0 ∧ sizeZ f.flat = [] ∧ sizeR f.flat = [] := by
  rw [sizeE_flat hf, (sizes_flat hf).1, (sizes_flat hf).2.1, (sizes_flat hf).2.2, if_neg h, if_neg h, if_neg h, if_neg h]; exact ⟨rfl, rfl, rfl, rfl⟩
theorem take_snoc {α : Type} {l : List α} {k : Nat} {x : α} (h : l[k]? = some x) : l.take k ++ [x] = l.take (k + 1) := by rw [List.take_add_one, h]; rfl
def List9Post (L : List Int) (E : Int) (w : World) (e : Ending) (w' : World) : Prop :=
  ∃ a c, e = .returned (.tuple #[.slice a L.length c, .int .i64 E]) ∧ Own w' w.heap.size 3 a c L ∧ Below w.heap.size w w'

set_option maxRecDepth 100000 in
set_option maxHeartbeats 1600000 in
theorem Sizes9_calls (a : Option Addr) (c : Nat) (l : List OpD) (w : World) (h : At w a l) (hl : l.length ≤ 1000000) :
    Calls Try.prog 51 #[.slice a l.length c] w (List9Post (sizeZ l) (sizeE l) w) := by
  have HWR := hide (fun w' (g : At w' a l) => Writes9_calls a c l w' g hl)
  cases hw : well l with
  | false =>
    obtain ⟨e1, e2, e3, e4⟩ := size_bad hw
    rw [e1, e2] at HWR
    have HE := hide (e3 : sizeZ l = [])
    rw [e1]
    clear e1 e2 e3 e4 hw
    go_enter Try.func51, Try.ntmps51
    go_wp2_with (go_at_call 65; ((with_reducible refine (HWR.out _ h).mono ?_); rintro e w1 ⟨rfl, hb⟩))
    go_ret2
    unfold List9Post
    rw [HE.out]
    exact ⟨none, 0, rfl, Own.none _ _ _, hb⟩
  | true =>
    obtain ⟨f, hf, rfl⟩ := forest_of_well l hw
    have HW := hide hw
    clear hw
    by_cases hg : f.may = true ∧ f.wr ≤ 65536
    case neg =>
      obtain ⟨e1, e2, e3, e4⟩ := W9_no hf hg
      rw [e1, e2] at HWR
      have HE := hide (e3 : sizeZ f.flat = [])
      rw [e1]
      clear e1 e2 e3 e4 hg
      go_enter Try.func51, Try.ntmps51
      go_wp2_with (go_at_call 65; ((with_reducible refine (HWR.out _ h).mono ?_); rintro e w1 ⟨rfl, hb⟩))
      go_ret2
      unfold List9Post
      rw [HE.out]
      exact ⟨none, 0, rfl, Own.none _ _ _, hb⟩
    case pos =>
      obtain ⟨e1, e2, e3, e4⟩ := W9_ok hf hg
      rw [e1, e2] at HWR
      have HE := hide (e3 : sizeZ f.flat = f.sizes)
      rw [e1]
      have HG := hide hg
      obtain ⟨wz, hwz⟩ : ∃ z : Int, z = (f.wr : Int) := ⟨_, rfl⟩
      rw [← hwz] at HWR
      clear e1 e2 e3 e4 hg hwz
      go_enter Try.func51, Try.ntmps51
      go_wp2_with (first
        | (go_at_call 65; ((with_reducible refine (HWR.out _ h).mono ?_); rintro e w0 ⟨rfl, hb0⟩; have hz0 := hb0.size))
        | (go_at_call 36; refine (Match8W a c f.flat _ (h.belowN hb0) hl HW.out).mono ?_; rintro e w1 ⟨am, cm, rfl, hown1, hb1⟩; have hat1 := hown1.at_; have hbel1 := hb0.trans (hb1.mono hz0); have hz1 := hbel1.size))
      have hl1 := h.belowN hbel1
      go_loopw [8, 9] (fun out i wr => ∃ (k : Nat) (ao : Option Addr) (co : Nat), i = .int .i64 k ∧ out = .slice ao k co ∧ k ≤ f.flat.length ∧ Own wr w1.heap.size 3 ao co (f.sizes.take k) ∧ Below w1.heap.size w1 wr) (fun _ i _ => f.flat.length - (intOf i).toNat)
      case atStart => exact ⟨0, _, 0, rfl, rfl, by omega, by simpa using Own.new w1 (Nat.le_refl _) _ Int, Below.alloc (Below.refl _ _) (Nat.le_refl _) _⟩
      case round =>
        obtain ⟨k, ao, co, rfl, rfl, hk, hown, hbr⟩ := hrel
        have hzr := hbr.size
        have hflen : f.sizes.length = f.flat.length := Fo.sizes_length f
        have hlen : (f.sizes.take k).length = k := by simp; omega
        have HLEN := hide hlen
        have HFL := hide hflen
        clear hlen hflen
        by_cases hlt : k < f.flat.length
        · obtain ⟨b1, off1, x, rfl, hx, x0, x1, x2, x3, x4⟩ := hl1.getOp hbr hlt
          obtain ⟨b2, off2, y, rfl, hy, y0⟩ := hat1.getI hbr (show k < (matchL f.flat).length by rw [matchL_length]; exact hlt)
          rcases place9 hf hx.out with ⟨h7, b, fin, r, hs, e1, e2, e3⟩ | ⟨h0, e1, e2⟩ | ⟨h1, h2, e1, e2⟩
          · have hmm := may_all hf HG.out.1 hs
            obtain ⟨Z, hZ⟩ : ∃ Z : Nat, Z = k + 1 + b.size := ⟨_, rfl⟩
            rw [← hZ] at e3
            obtain rfl : y = (Z : Int) := by have := hy.out.symm.trans e3; simpa using this
            have k7 : (x.kind == 7) = true := by simp [h7]
            have HBL := hide (fun w' (g1 : At w' (some ⟨b1, off1, none⟩) f.flat) (g2 : At w' (some ⟨b2, off2, none⟩) (matchL f.flat)) => block_m (c := c) (cm := cm) hl k x fin b r w' g1 g2 hs)
            have hlr := hl1.belowN hbr
            have hmr := hat1.belowN hbr
            rw [capW_le hmm.2] at HBL
            have ht := take_snoc e1
            obtain ⟨q, hq⟩ : ∃ q : Int, q = (((b.wr * x.v.toNat : Nat) : Nat) : Int) := ⟨_, rfl⟩
            rw [← hq] at HBL ht
            have HT := hide ht
            clear hs e1 e2 e3 hx hy h7 hZ ht hmm hq
            go_wp2_with (first
              | (go_at_call 66; ((with_reducible refine (HBL.out _ hlr hmr).mono ?_); rintro e w2 ⟨rfl, hb2⟩; have hown2 := hown.belowN hb2; have hbr2 := hbr.trans (hb2.mono hzr); have hz2 := hbr2.size))
              | (at_builtin; refine wpList_push tyI hown2 q rfl rfl rfl rfl rfl rfl HLEN.out.symm hz2 (by omega) ?_; intro a3 c3 w3 hown3 hg3 _))
            rw [HT.out] at hown3
            go_roundw
            case rel => exact ⟨k + 1, a3, c3, by go_num, by simp, by omega, hown3, below_push hbr2 hown2 hg3 hz2⟩
            case measure => simp [intOf]; omega
          ·
            have k7 : (x.kind == 7) = false := by simp; omega
            have ht := take_snoc (l := f.sizes) (k := k) e1
            have HT := hide ht
            have HA := hide (fun w => Asks_calls x.kind w)
            rw [dOf_false (.inl h0)] at HA
            clear e1 e2 hx hy ht h0
            go_wp2_with (first
              | (go_at_call 67; ((with_reducible refine (HA.out _).mono ?_); rintro e w2 ⟨rfl, hb2⟩; have hown2 := hown.belowN hb2; have hbr2 := hbr.trans (hb2.mono hzr); have hz2 := hbr2.size))
              | (refine wpList_idx _ _ rfl rfl false (aOf x.kind) (bOf x.kind) (vOf x.kind) rfl rfl ?_)
              | (at_builtin; refine wpList_push tyI hown2 0 rfl rfl rfl rfl rfl rfl HLEN.out.symm hz2 (by omega) ?_; intro a3 c3 w3 hown3 hg3 _))
            rw [HT.out] at hown3
            go_roundw
            case rel => exact ⟨k + 1, a3, c3, by go_num, by simp, by omega, hown3, below_push hbr2 hown2 hg3 hz2⟩
            case measure => simp [intOf]; omega
          ·
            have k7 : (x.kind == 7) = false := by simp; omega
            have ht := take_snoc (l := f.sizes) (k := k) e1
            have HT := hide ht
            have HA := hide (fun w => Asks_calls x.kind w)
            rw [dOf_true h1 h2] at HA
            clear e1 e2 hx hy ht h1 h2
            go_wp2_with (first
              | (go_at_call 67; ((with_reducible refine (HA.out _).mono ?_); rintro e w2 ⟨rfl, hb2⟩; have hown2 := hown.belowN hb2; have hbr2 := hbr.trans (hb2.mono hzr); have hz2 := hbr2.size))
              | (refine wpList_idx _ _ rfl rfl true (aOf x.kind) (bOf x.kind) (vOf x.kind) rfl rfl ?_)
              | (at_builtin; refine wpList_push tyI hown2 1 rfl rfl rfl rfl rfl rfl HLEN.out.symm hz2 (by omega) ?_; intro a3 c3 w3 hown3 hg3 _))
            rw [HT.out] at hown3
            go_roundw
            case rel => exact ⟨k + 1, a3, c3, by go_num, by simp, by omega, hown3, below_push hbr2 hown2 hg3 hz2⟩
            case measure => simp [intOf]; omega
        · obtain rfl : k = f.flat.length := by omega
          have hlast : f.sizes.take f.flat.length = f.sizes := by rw [← HFL.out, List.take_length]
          rw [hlast] at hown
          clear hlast
          go_wp2
          go_ret2
          unfold List9Post
          rw [HE.out]
          exact ⟨ao, co, by rw [HFL.out]; rfl, hown.mono hz1, hbel1.trans (hbr.mono hz1)⟩

end Go.Proofs.Ytoklehndfncmnaa
