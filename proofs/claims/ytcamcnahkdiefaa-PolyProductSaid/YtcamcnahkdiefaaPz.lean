/- Products: poly.Mul. -/
import Derived.Test.YtcamcnahkdiefaaPy
namespace Go.Proofs.Ytcamcnahkdiefaa
set_option linter.unusedVariables false
set_option linter.unusedSimpArgs false
open Go.RowKit
/-- a product of two terms -/
def mul1 (s t : Tm) : Tm := (s.1 * t.1, List.zipWith (· + ·) s.2 t.2)
def mulT (A B : List Tm) : List Tm := A.flatMap fun s => B.map (mul1 s)
theorem mulT_take {A B : List Tm} {k : Nat} {s : Tm} (h : A[k]? = some s) : mulT (A.take (k + 1)) B = mulT (A.take k) B ++ B.map (mul1 s) := by
  unfold mulT
  rw [List.take_add_one, h, List.flatMap_append]; simp
theorem mulT_drop {A B : List Tm} {k : Nat} {s : Tm} (h : A[k]? = some s) : mulT (A.drop k) B = B.map (mul1 s) ++ mulT (A.drop (k + 1)) B := by
  rw [drop_at h]; rfl
theorem map_take1 {B : List Tm} {s t : Tm} {i : Nat} (h : B[i]? = some t) : (B.take (i + 1)).map (mul1 s) = (B.take i).map (mul1 s) ++ [mul1 s t] := by
  rw [List.take_add_one, h, List.map_append]; rfl
theorem map_drop1 {B : List Tm} {s t : Tm} {i : Nat} (h : B[i]? = some t) : (B.drop i).map (mul1 s) = mul1 s t :: (B.drop (i + 1)).map (mul1 s) := by
  rw [drop_at h]; rfl
theorem mulT_len (A B : List Tm) : (mulT A B).length = A.length * B.length := by
  unfold mulT
  induction A with
  | nil => simp
  | cons s A ih => rw [List.flatMap_cons, List.length_append, ih, List.length_map, List.length_cons, Nat.succ_mul]; omega
def mulE (va : Int) (A B : List Tm) : Int := if rightL va (mulT A B) = true then mkE va (mulT A B) else 20
def mulV (va : Int) (A B : List Tm) : Int := if rightL va (mulT A B) = true then mkV va (mulT A B) else 0
def mulL (va : Int) (A B : List Tm) : List Tm := if rightL va (mulT A B) = true then mkL va (mulT A B) else []
def mresE (ok : Bool) (va : Int) (A B : List Tm) : Int := if ok = true then mulE va A B else 2
def mresV (ok : Bool) (va : Int) (A B : List Tm) : Int := if ok = true then mulV va A B else 0
def mresL (ok : Bool) (va : Int) (A B : List Tm) : List Tm := if ok = true then mulL va A B else []
theorem rightL_cons (vars : Int) (t : Tm) (l : List Tm) : rightL vars (t :: l) = (rightT vars t.2 && rightL vars l) := rfl
theorem rightL_snoc {vars : Int} {l : List Tm} {t : Tm} (h : rightL vars l = true) (ht : rightT vars t.2 = true) : rightL vars (l ++ [t]) = true := rightL_app h (by rw [rightL_cons, ht]; rfl)
theorem zip_len {a b : List Int} {n : Nat} (h1 : a.length = n) (h2 : b.length = n) : (List.zipWith (· + ·) a b).length = n := by rw [List.length_zipWith]; omega
theorem zip_at {a b : List Int} {i : Nat} {x y : Int} (h1 : a[i]? = some x) (h2 : b[i]? = some y) : (List.zipWith (· + ·) a b)[i]? = some (x + y) := by
  rw [List.getElem?_zipWith, h1, h2]
theorem take_set_next {l m : List Int} {i : Nat} {x : Int} (h : l.take i = m.take i) (hi : i < l.length) (hx : m[i]? = some x) : (l.set i x).take (i + 1) = m.take (i + 1) := by
  rw [List.take_add_one, List.take_add_one, hx, List.take_set_of_le (Nat.le_refl _), h, List.getElem?_set_self hi]
theorem AtTP.getB {P : Nat → Prop} {w wr : World} {a : Option Addr} {ts : List Tm} (h : AtTP P w a ts) (hb : Below w.heap.size w wr) {k : Nat} (hk : k < ts.length) :
    ∃ (b off : Nat) (t : Tm) (ea : Option Addr) (en ec : Nat), a = some ⟨b, off, none⟩ ∧ Hid (ts[k]? = some t) ∧ wr.cell? ⟨b, off + k * 2, none⟩ = some (.int .u64 (t.1.toNat : Int)) ∧ wr.cell? ⟨b, off + k * 2 + 1, none⟩ = some (.slice ea en ec) ∧ Hid (TmH.of w ⟨t.1, ea, en, ec⟩ t) := by
  obtain ⟨hs, h1, h2, h3, _, h5⟩ := h
  obtain ⟨b, off, y, e, hy, hc⟩ := h1.get (k := k) (by omega)
  have ht : ts[k]? = some ts[k] := List.getElem?_eq_getElem hk
  have hq := h3 k y _ hy.out ht
  have c0 := hc 0 _ rfl
  have c1 := hc 1 _ rfl
  refine ⟨b, off, ts[k], y.a, y.n, y.k, e, hide ht, cell_later hb ?_, cell_later hb ?_, hide ?_⟩
  · rw [← hq.1]; simpa [Flat.n] using c0
  · simpa [Flat.n] using c1
  · exact ⟨rfl, hq.2⟩
set_option maxRecDepth 100000 in
set_option maxHeartbeats 12800000 in
theorem PMul_good (P Q : Nat → Prop) (va : Int) (a b : Option Addr) (n c m d : Nat) (A B : List Tm) (w : World) (h : TOut P w a n c A) (h' : TOut Q w b m d B) (hQA : checkP va A = true) (hQB : checkP va B = true) (V : Int) (L : List Tm) (E : Int) (hV : mulV va A B = V) (hL : mulL va A B = L) (hE : mulE va A B = E) :
    Calls Try.prog 24 #[.agg #[.int .i64 va, .slice a n c], .agg #[.int .i64 va, .slice b m d]] w (PolyOut V L E w) := by
  obtain ⟨hX1, hX2, hX3, hb0, hz0⟩ := three_boxes w 24 24 24 #[.int .i64 va, .slice a n c] #[.int .i64 va, .slice b m d] #[.int .i64 0, .slice none 0 0]
  obtain ⟨W0, hW0⟩ : ∃ W0, ((w.alloc (.cells #[.int .i64 va, .slice a n c] 24)).alloc (.cells #[.int .i64 va, .slice b m d] 24)).alloc (.cells #[.int .i64 0, .slice none 0 0] 24) = W0 := ⟨_, rfl⟩
  rw [hW0] at hX1 hX2 hX3 hb0 hz0
  have hokA := checkP_ok hQA
  have hokB := checkP_ok hQB
  have hn4 : n ≤ 4096 := by rw [h.len]; exact hokA.len
  have hm4 : m ≤ 4096 := by rw [h'.len]; exact hokB.len
  have HCA := hide (Check_calls va a n c A h.len W0 (h.at_.at_.belowN hb0) (by omega) hokA.len6 true hQA)
  have HCB := hide (fun (W : World) (k : Below W0.heap.size W0 W) => Check_calls va b m d B h'.len W ((h'.at_.at_.belowN hb0).belowN k) (by omega) hokB.len6 true hQB)
  obtain ⟨p0, p1, p2, p3⟩ := hX1.c2
  obtain ⟨q0, q1, q2, q3⟩ := hX2.c2
  have HW0 := hide hW0
  have e1 : (va != va) = false := by simp
  have e2 : (va == va) = true := by simp
  have hatA := h.at_.belowN hb0
  have hatB := h'.at_.belowN hb0
  have HN := hide h.len
  have HM := hide h'.len
  have HOA := hide hokA
  have HOB := hide hokB
  have HV := hide hV
  have HL := hide hL
  have HE := hide hE
  obtain ⟨vn, hvn⟩ : ∃ vn : Nat, va = vn := ⟨va.toNat, by have := hokA.v; omega⟩
  have hv64 : vn ≤ 64 := by have := hokA.n64; omega
  subst hvn
  have HH := hide (fun W => Heap_calls vn (vn : Int) W)
  obtain ⟨R, hR⟩ : ∃ R, rightL (vn : Int) (mulT A B) = R := ⟨_, rfl⟩
  have HR := hide hR
  have HR0 : Hid (rightL (vn : Int) (mulT (A.drop 0) B) = R) := hR
  have HP0 : Hid (rightL (vn : Int) (mulT (A.take 0) B) = true) := rfl
  clear hQA hQB h h' hW0 hokA hokB hV hL hE hR
  go_enter Try.func24, Try.ntmps24
  go_wp2_with (first
    | (have hgd := hb1; go_at_call 21; go_must ((with_reducible refine (HCB.out _ hb1).mono ?_); rintro v w2 ⟨rfl, hb2⟩; have hB2 := hb1.trans (hb2.mono hb1.size); have hX5 := hX3.belowN hB2; obtain ⟨r0, r1, r2, r3⟩ := (hX1.belowN hB2).c2; obtain ⟨s0, s1, s2, s3⟩ := (hX2.belowN hB2).c2))
    | (go_at_call 21; go_must ((rw [HW0.out]); (with_reducible refine (HCA.out).mono ?_); rintro v w1 ⟨rfl, hb1⟩; obtain ⟨s0, s1, s2, s3⟩ := (hX2.belowN hb1).c2))
    | (go_at_call 32; go_must ((with_reducible refine (HH.out _).mono ?_); rintro v w3 ⟨rfl, hH3, hb3⟩; have hB3 := hB2.trans (hb3.mono hB2.size); obtain ⟨t0, t1, t2, t3⟩ := (hX1.belowN hB3).c2))
    | (at_make; go_must (refine wpList_mk tyI03 (B := w3.heap.size) (n := vn) rfl rfl rfl rfl rfl rfl (Nat.le_refl _) (by omega) ?_; intro w4 hown4 hg4; have hb4 := below_of_grown hg4; have hB4 := hB3.trans (hb4.mono hB3.size); obtain ⟨u0, u1, u2, u3⟩ := (hX1.belowN hB4).c2)))
  obtain ⟨g, hg⟩ : ∃ g, g = w2.heap.size := ⟨_, rfl⟩
  obtain ⟨ge, hge⟩ : ∃ ge, ge = w3.heap.size := ⟨_, rfl⟩
  rw [← hg] at hH3 ⊢
  rw [← hge] at hown4 ⊢
  have hgge : g + 2 < ge := by rw [hge]; exact hH3.lt
  have hH4 := hH3.belowN hb4
  have hb24 : Below g w2 w4 := by rw [hg]; exact hb3.trans (hb4.mono hb3.size)
  have hgw : w.heap.size + 1 + 1 < g := by rw [hg]; exact hX5.lt
  have hBz := hb0.trans (hB2.mono hb0.size)
  have hA2 := hatA.belowN hB2
  have hBB2 := hatB.belowN hB2
  have hY1 := hX1.belowN hB2
  have hY2 := hX2.belowN hB2
  have hge4 : ge < w4.heap.size := by have := hown4.blk ge rfl; omega
  have HG := hide hg
  clear hg hge hB4 hB3 hb3 hb4 hg4 hH3 HH HCA HCB hatA hatB hX1 hX2 hX3 hgd
  go_loopw [42] (fun iv wr => ∃ (k : Nat) (l : List Int), iv = .int .i64 k ∧ k ≤ n ∧ Hid (rightL (vn : Int) (mulT (A.drop k) B) = R) ∧ Hid (rightL (vn : Int) (mulT (A.take k) B) = true) ∧ HeapT wr g (vn : Int) vn (mulT (A.take k) B) ∧ l.length = vn ∧ Own wr ge 3 (some ⟨ge, 0, none⟩) vn l ∧ Below g w2 wr) (fun iv _ => n - (intOf iv).toNat)
  case atStart => exact ⟨0, _, rfl, by omega, HR0.out, HP0.out, hH4, by simp, hown4, hb24⟩
  case round =>
    obtain ⟨k, l, rfl, hk, hRk, hPk, hH, hll, hown, hbr⟩ := hrel
    have hbX : Below w2.heap.size w2 wr := hbr.mono (by rw [HG.out]; exact Nat.le_refl _)
    have hzr := hH.lt
    have hger := (hown.blk ge rfl).2
    have hXr := hX5.belowN hbX
    have hBr := hBz.trans (hbX.mono hBz.size)
    obtain ⟨x0, x1, x2, x3⟩ := hXr.c2
    by_cases hlt : k < n
    · obtain ⟨b1, off1, t, ea, en, ec, rfl, ht, t0, t1, hrow⟩ := hA2.getB hbX (k := k) (by rw [← HN.out]; exact hlt)
      have hk0 : (0 : Int) ≤ (k : Int) := by omega
      have hk1 : (k : Int) < (n : Int) := by omega
      have hen : en = t.2.length := hrow.out.2.1
      have hrt := HOA.out.rt t (List.mem_of_getElem? ht.out)
      have hlen := rightT_len hrt
      have henv : en = vn := by omega
      have hin := rightT_in hrt
      have HIN := hide hin
      subst henv
      have hRk2 := hRk.out
      rw [mulT_drop ht.out] at hRk2
      have HRK2 : Hid (rightL (en : Int) ((B.drop 0).map (mul1 t) ++ mulT (A.drop (k + 1)) B) = R) := hRk2
      have HTA := hide (mulT_take (B := B) ht.out)
      have hPs : Hid (rightL (en : Int) (mulT (A.take k) B ++ (B.take 0).map (mul1 t)) = true) := by
        show _ = _
        rw [List.take_zero, List.map_nil, List.append_nil]; exact hPk.out
      have hbx := below_box wr (.cells #[.int .u64 (t.1.toNat : Int), .slice ea en ec] 57)
      have hT := Blk.new wr 57 #[.int .u64 (t.1.toNat : Int), .slice ea en ec]
      have hHs : HeapT (wr.alloc (.cells #[.int .u64 (t.1.toNat : Int), .slice ea en ec] 57)) g (en : Int) en (mulT (A.take k) B ++ (B.take 0).map (mul1 t)) := by
        rw [List.take_zero, List.map_nil, List.append_nil]; exact hH.belowN hbx
      obtain ⟨bs, hbs⟩ : ∃ bs, bs = wr.heap.size := ⟨_, rfl⟩
      have hgebs : ge < bs := by rw [hbs]; exact hger
      have hbxg : Below g w2 (wr.alloc (.cells #[.int .u64 (t.1.toNat : Int), .slice ea en ec] 57)) := hbr.alloc (by omega) _
      obtain ⟨s4, s5, s6, s7⟩ := ((hY2.belowN hbX).belowN hbx).c2
      have HLA := hide (show (mulT (A.take k) B).length + m ≤ 16777216 by
        rw [mulT_len, List.length_take, ← HN.out, ← HM.out, Nat.min_eq_left (by omega)]
        have : (k + 1) * m ≤ 4096 * 4096 := Nat.mul_le_mul (by omega) hm4
        rw [Nat.succ_mul] at this
        omega)
      have hea := hrow.out.2.2.2.2
      have HT := hide hT
      obtain ⟨wo, rfl⟩ : ∃ wo : World, wo = wr := ⟨_, rfl⟩
      clear ht hen hlen hrt hRk2 hin hH hT
      go_wp2
      rw [← hbs]
      have hT1 : Blk (wo.alloc (.cells #[.int .u64 (t.1.toNat : Int), .slice ea en ec] 57)) bs 57 #[.int .u64 (t.1.toNat : Int), .slice ea en ec] := by rw [hbs]; exact HT.out
      have HBS := hide hbs
      have hown1 := hown.alloc (.cells #[.int .u64 (t.1.toNat : Int), .slice ea en ec] 57)
      clear hbs HT
      go_loopw [49] (fun jv wi => ∃ (i : Nat) (l : List Int), jv = .int .i64 i ∧ i ≤ m ∧ Hid (rightL (en : Int) ((B.drop i).map (mul1 t) ++ mulT (A.drop (k + 1)) B) = R) ∧ Hid (rightL (en : Int) (mulT (A.take k) B ++ (B.take i).map (mul1 t)) = true) ∧ HeapT wi g (en : Int) en (mulT (A.take k) B ++ (B.take i).map (mul1 t)) ∧ l.length = en ∧ Own wi ge 3 (some ⟨ge, 0, none⟩) en l ∧ Blk wi bs 57 #[.int .u64 (t.1.toNat : Int), .slice ea en ec] ∧ Below g w2 wi) (fun jv _ => m - (intOf jv).toNat)
      case atStart => exact ⟨0, l, rfl, by omega, HRK2.out, hPs.out, hHs, hll, hown1, hT1, hbxg⟩
      case round =>
        obtain ⟨i, l, rfl, hi, hRi, hPi, hH, hll, hown, hT, hbr⟩ := hrel
        have hbX : Below w2.heap.size w2 wr := hbr.mono (by rw [HG.out]; exact Nat.le_refl _)
        have hzr := hH.lt
        have hbsr := hT.lt
        obtain ⟨c0, c1, c2, c3⟩ := hT.c2
        by_cases hlt : i < m
        · obtain ⟨b2, off2, s, fa, fn, fc, rfl, hs, s0, s1, hrowS⟩ := hBB2.getB hbX (k := i) (by rw [← HM.out]; exact hlt)
          have hi0 : (0 : Int) ≤ (i : Int) := by omega
          have hi1 : (i : Int) < (m : Int) := by omega
          have hfn : fn = s.2.length := hrowS.out.2.1
          have hrts := HOB.out.rt s (List.mem_of_getElem? hs.out)
          have hlens := rightT_len hrts
          have hfnv : fn = en := by omega
          have HINS := hide (rightT_in hrts)
          subst hfnv
          have hRi2 := hRi.out
          rw [map_drop1 hs.out, List.cons_append, rightL_cons] at hRi2
          have HBT := hide (map_take1 (s := t) hs.out)
          obtain ⟨bt, hbt⟩ : ∃ bt, bt = wr.heap.size := ⟨_, rfl⟩
          have hbx := below_box wr (.cells #[.int .u64 (s.1.toNat : Int), .slice fa fn fc] 57)
          have hSB := Blk.new wr 57 #[.int .u64 (s.1.toNat : Int), .slice fa fn fc]
          rw [← hbt] at hSB
          have hbsbt : bs < bt := by rw [hbt]; exact hbsr
          have hHs := hH.belowN hbx
          have hTs := hT.belowN hbx
          have hown1 := hown.belowN hbx
          have hbxg : Below g w2 (wr.alloc (.cells #[.int .u64 (s.1.toNat : Int), .slice fa fn fc] 57)) := hbr.alloc (by omega) _
          have hfa := hrowS.out.2.2.2.2
          obtain ⟨Z, hZ⟩ : ∃ Z, List.zipWith (· + ·) t.2 s.2 = Z := ⟨_, rfl⟩
          have hea6 : t.2.length = fn := by have := hrow.out.2.1; exact this.symm
          have hZl : Z.length = fn := by rw [← hZ]; exact zip_len hea6 hfn.symm
          have HZ := hide hZ
          have HZL := hide hZl
          have HS := hide hs.out
          have HFN := hide hfn
          have HEA6 := hide hea6
          have HBTE := hide hbt
          obtain ⟨wi, rfl⟩ : ∃ wi : World, wi = wr := ⟨_, rfl⟩
          clear hs hfn hlens hrts hH hT hZ hZl hea6
          go_wp2
          rw [← hbt]
          clear hbt
          go_loopw [55] (fun pv wp => ∃ (p : Nat) (l : List Int), pv = .int .i64 p ∧ p ≤ fn ∧ Hid (l.take p = Z.take p) ∧ HeapT wp g (fn : Int) fn (mulT (A.take k) B ++ (B.take i).map (mul1 t)) ∧ l.length = fn ∧ Own wp ge 3 (some ⟨ge, 0, none⟩) fn l ∧ Blk wp bs 57 #[.int .u64 (t.1.toNat : Int), .slice ea fn ec] ∧ Blk wp bt 57 #[.int .u64 (s.1.toNat : Int), .slice fa fn fc] ∧ Below g w2 wp) (fun pv _ => fn - (intOf pv).toNat)
          case atStart => exact ⟨0, l, rfl, by omega, rfl, hHs, hll, hown1, hTs, hSB, hbxg⟩
          case round =>
            obtain ⟨p, l, rfl, hp, hpl, hH, hll, hown, hT, hSB, hbr⟩ := hrel
            have hbX : Below w2.heap.size w2 wr := hbr.mono (by rw [HG.out]; exact Nat.le_refl _)
            have hzr := hH.lt
            obtain ⟨c0, c1, c2, c3⟩ := hT.c2
            obtain ⟨d0, d1, d2, d3⟩ := hSB.c2
            by_cases hlt : p < fn
            · obtain ⟨b3, off3, x, rfl, hx, y0⟩ := hea.getI hbX (k := p) (by rw [HEA6.out]; exact hlt)
              obtain ⟨b4, off4, y, rfl, hy, y1⟩ := hfa.getI hbX (k := p) (by rw [← HFN.out]; exact hlt)
              have hp0 : (0 : Int) ≤ (p : Int) := by omega
              have hp1 : (p : Int) < (fn : Int) := by omega
              have hxr := HIN.out x (List.mem_of_getElem? hx.out)
              have hyr := HINS.out y (List.mem_of_getElem? hy.out)
              have hZp : Z[p]? = some (x + y) := by rw [← HZ.out]; exact zip_at hx.out hy.out
              have hfz := hown.frozen p
              obtain ⟨z, zu, hz1, hz2, hz3⟩ := hown.cell1 (i := p) (by omega) rfl
              have hzu : zu = .int .i64 z := by simpa [Flat.enc] using hz2.symm
              subst hzu
              have hown2 := (hown.drew).set1 p (x + y) (.int .i64 (x + y)) rfl
              have HT2 := hide (take_set_next hpl.out (by omega) hZp)
              clear hx hy hz1 hz2 hZp
              go_wp2
              go_region
              go_wp2
              go_roundw
              case rel => exact ⟨p + 1, _, by go_num, by omega, HT2.out, (hH.belowN (below_drawn _ _ 1)).grown (grown_setCell _ ge p _) (fun j hj => by cases hj; omega), by simpa using hll, hown2, (hT.drewN 1).far (p := ⟨ge, p, none⟩) (by simp; omega) _, (hSB.drewN 1).far (p := ⟨ge, p, none⟩) (by simp; omega) _, (hbr.trans (below_drawn _ _ 1)).setCell (p := ⟨ge, p, none⟩) (by show g ≤ ge; omega) _⟩
              case measure => simp [intOf]; omega
            · obtain rfl : p = fn := by omega
              have hlZ : l = Z := by
                have := hpl.out
                rw [List.take_of_length_le (by omega), List.take_of_length_le (by rw [HZL.out]; exact Nat.le_refl _)] at this
                exact this
              subst hlZ
              obtain ⟨v0, v1, v2, v3⟩ := (hY1.belowN hbX).c2
              have hXr := hX5.belowN hbX
              obtain ⟨x0, x1, x2, x3⟩ := hXr.c2
              have hBr := hBz.trans (hbX.mono hBz.size)
              obtain ⟨R1, hR1⟩ : ∃ R1, rightT (p : Int) l = R1 := ⟨_, rfl⟩
              have HRC := hide (PRight_calls (p : Int) (some ⟨ge, 0, none⟩) p p l hll.symm wr hown.at_ (by omega) R1 hR1)
              have hmt : (mul1 t s).2 = l := HZ.out
              rw [hmt, hR1] at hRi2
              cases R1 with
              | false =>
                have hQF : R = false := by rw [← hRi2]; rfl
                have hV := HV.out
                have hL := HL.out
                have hE := HE.out
                unfold mulV at hV
                unfold mulL at hL
                unfold mulE at hE
                rw [HR.out, hQF] at hV hL hE
                rw [if_neg (by decide)] at hV hL hE
                subst hV hL hE
                clear hRi2 hR1 hmt hpl hQF
                go_wp2_with (go_at_call 40; go_must ((with_reducible refine (HRC.out).mono ?_); rintro v w5 ⟨rfl, rfl⟩))
                have hF6 := (hXr.set_ 0 (.int .i64 0)).set_ 1 (.slice none 0 0)
                refine bodyPost_ret (results_rowP rfl _ _ (w.heap.size + 1 + 1) _ #[.int .i64 0, .slice none 0 0] (0, 0) _ rfl hF6 Try.underlying24 rfl (by kernel_rfl)) rfl ?_
                exact PolyOut.bad _ _ _ ((hBr.setCell (p := ⟨w.heap.size + 1 + 1, 0, none⟩) (by show _ ≤ w.heap.size + 1 + 1; omega) (.int .i64 0)).setCell (p := ⟨w.heap.size + 1 + 1, 1, none⟩) (by show _ ≤ w.heap.size + 1 + 1; omega) (.slice none 0 0))
              | true =>
                rw [Bool.true_and] at hRi2
                have HRi2 := hide hRi2
                have HPi2 := hide (rightL_snoc (t := mul1 t s) hPi.out (by rw [hmt]; exact hR1))
                have HLB := hide (show (mulT (A.take k) B ++ (B.take i).map (mul1 t)).length ≤ 16777216 by
                  have h1 := HLA.out
                  rw [List.length_append, List.length_map, List.length_take, ← HM.out, Nat.min_eq_left (by omega)]
                  omega)
                have HPT := hide (Put_calls wr g (p : Int) p _ hH (by have := HLB.out; omega) (mul1 t s) (some ⟨ge, 0, none⟩) p p (by rw [hmt, hll]) (by rw [hmt]; exact hll) (by omega) (by rw [hmt]; exact rightT_in hR1) (by rw [hmt]; exact hown.at_))
                have HMU := hide (show IntKind.u64.wrap ((t.1.toNat : Int) * (s.1.toNat : Int)) = ((mul1 t s).1.toNat : Int) from u64_mul t.1 s.1)
                clear hRi2 hR1 hmt hpl
                go_wp2_with (first
                  | (go_at_call 40; go_must ((with_reducible refine (HRC.out).mono ?_); rintro v w5 ⟨rfl, rfl⟩))
                  | (go_at_call 51; go_must ((rw [HMU.out]); (with_reducible refine (HPT.out).mono ?_); rintro v w6 ⟨rfl, hH6, hg6⟩)))
                go_roundw
                case rel =>
                  refine ⟨i + 1, l, by go_num, by omega, HRi2.out, by rw [HBT.out, ← List.append_assoc]; exact HPi2.out, by rw [HBT.out, ← List.append_assoc]; exact hH6, hll, hown.grown hg6 (.inr (by simp; omega)), hT.grown hg6 (by simp; omega), hbr.grown hg6 (by omega) (fun j hj => by cases hj; omega)⟩
                case measure => simp [intOf]; omega
        · obtain rfl : i = m := by omega
          have hRi2 := hRi.out
          have hPi2 := hPi.out
          rw [List.drop_eq_nil_of_le (by rw [← HM.out]; exact Nat.le_refl _), List.map_nil, List.nil_append] at hRi2
          rw [show B.take i = B from List.take_of_length_le (by rw [← HM.out]; exact Nat.le_refl _)] at hPi2 hH
          rw [← HTA.out] at hPi2 hH
          have HRi2 := hide hRi2
          have HPi2 := hide hPi2
          clear hRi2 hPi2
          go_wp2
          go_roundw
          case rel => exact ⟨k + 1, l, by go_num, by omega, HRi2.out, HPi2.out, hH, hll, hown, hbr⟩
          case measure => simp [intOf]; omega
    · obtain rfl : k = n := by omega
      have hP2 := hPk.out
      have htk : A.take k = A := List.take_of_length_le (by rw [← HN.out]; exact Nat.le_refl _)
      rw [htk] at hP2 hH
      obtain ⟨q1, q2, q3⟩ := mk_ok HOA.out.range hP2
      have hV := HV.out
      have hL := HL.out
      have hE := HE.out
      unfold mulV at hV
      unfold mulL at hL
      unfold mulE at hE
      rw [if_pos hP2] at hV hL hE
      have hml : (mulT A B).length ≤ 16777216 := by
        rw [mulT_len, ← HN.out, ← HM.out]
        exact Nat.mul_le_mul hn4 hm4
      have hlt2 := LenT.of_right (List.all_eq_true.1 hP2)
      rw [Int.toNat_natCast] at hlt2
      have HA := hide (All_calls wr g (vn : Int) vn (mulT A B) hH (by omega) hlt2 (rightL_in hP2) (by omega) V L E (by rw [← q2, hV]) (by rw [← q3, hL]) (by rw [← q1, hE]))
      clear hP2 q1 q2 q3 htk hV hL hE hml hlt2
      go_wp2_with (go_at_call 53; go_must ((with_reducible refine (HA.out).mono ?_); rintro v w6 ⟨a6, n6, c6, rfl, hT6, hb6⟩; have hX6 := hXr.belowN hb6; obtain ⟨y0, y1, y2, y3⟩ := hX6.c2))
      have hF6 := (hX6.set_ 0 (.int .i64 V)).set_ 1 (.slice a6 n6 c6)
      refine bodyPost_ret (results_rowP rfl _ _ (w.heap.size + 1 + 1) _ #[.int .i64 V, .slice a6 n6 c6] (0, 0) _ rfl hF6 Try.underlying24 rfl (by kernel_rfl)) rfl ?_
      exact PolyOut.stored (hBr.trans (hb6.mono hBr.size)) hT6 (by omega) hXr.lt hBr.size
end Go.Proofs.Ytcamcnahkdiefaa
