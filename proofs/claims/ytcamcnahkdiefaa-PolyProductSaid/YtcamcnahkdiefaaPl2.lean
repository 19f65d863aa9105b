/- Plain: the derivative of a product. -/
import Derived.Test.YtcamcnahkdiefaaPl
namespace Go.Proofs.Ytcamcnahkdiefaa
set_option linter.unusedVariables false
set_option linter.unusedSimpArgs false
theorem drv_facts {va : Int} {A : List Tm} (hA : checkP va A = true) {j : Nat} (hj : (j : Int) < va) : drvOk va A (j : Int) = true ∧ resE (drvOk va A (j : Int)) va (drvT (j : Int).toNat A) = 0 ∧ resV (drvOk va A (j : Int)) va (drvT (j : Int).toNat A) = va ∧
    resL (drvOk va A (j : Int)) va (drvT (j : Int).toNat A) = sortT (drvT j A) ∧ checkP va (sortT (drvT j A)) = true := by
  have hok : drvOk va A (j : Int) = true := by
    unfold drvOk
    rw [hA, decide_eq_true (show (0 : Int) ≤ (j : Int) by omega), decide_eq_true hj]; rfl
  have oA := checkP_ok hA
  have hr := drvT_right (i := j) oA.right
  have hs : (sortT (drvT j A)).length ≤ 4096 := Nat.le_trans (sort_len _) (Nat.le_trans (drvT_len j A) oA.len)
  obtain ⟨h1, h2, h3⟩ := mk_of_ok oA.range hr hs
  rw [hok, Int.toNat_natCast]
  exact ⟨rfl, h1, h2, h3, check_sort oA.range hr hs⟩
theorem right_mul {va : Int} {A B : List Tm} : rightL va (mulT A B) = true ↔ ∀ s ∈ A, ∀ t ∈ B, rightT va (zipE s.2 t.2) = true := by
  constructor
  · intro h s hs t ht
    exact List.all_eq_true.1 h (mul1 s t) (List.mem_flatMap.2 ⟨s, hs, List.mem_map.2 ⟨t, ht, rfl⟩⟩)
  · intro h
    refine List.all_eq_true.2 fun x hx => ?_
    obtain ⟨s, hs, hx⟩ := List.mem_flatMap.1 hx
    obtain ⟨t, ht, rfl⟩ := List.mem_map.1 hx
    exact h s hs t ht
theorem mem_drv {i : Nat} {A : List Tm} {r : Tm} (h : r ∈ drvT i A) : ∃ t ∈ A, 0 < t.2.getD i 0 ∧ r.2 = t.2.set i (t.2.getD i 0 - 1) := by
  obtain ⟨t, ht, hr⟩ := List.mem_flatMap.1 h
  unfold drv1 at hr
  split at hr
  · rename_i h0
    simp only [List.mem_singleton] at hr
    exact ⟨t, ht, h0, by rw [hr]⟩
  · simp at hr
theorem right_set {va : Int} {e : List Int} (h : rightT va e = true) {i : Nat} {x : Int} (h0 : 0 ≤ x) (h1 : x ≤ 65535) : rightT va (e.set i x) = true := by
  refine rightT_mk (by rw [List.length_set]; exact rightT_len h) fun y hy => ?_
  rcases List.mem_or_eq_of_mem_set hy with hy | rfl
  · exact rightT_in h y hy
  · exact ⟨h0, h1⟩
theorem getD_in {va : Int} {e : List Int} (h : rightT va e = true) (i : Nat) : 0 ≤ e.getD i 0 ∧ e.getD i 0 ≤ 65535 := by
  by_cases hi : i < e.length
  · have : e.getD i 0 ∈ e := by rw [List.getD_eq_getElem?_getD, List.getElem?_eq_getElem hi]; exact List.getElem_mem hi
    exact rightT_in h _ this
  · rw [List.getD_eq_getElem?_getD, List.getElem?_eq_none (by omega)]; exact ⟨Int.le_refl _, by decide⟩
theorem drvT_lenT {n i : Nat} {A : List Tm} (h : LenT n A) : LenT n (drvT i A) := fun r hr => by
  obtain ⟨t, ht, _, e⟩ := mem_drv hr
  rw [e, List.length_set]; exact h t ht
theorem mulT_lenT {n : Nat} {A B : List Tm} (hA : LenT n A) (hB : LenT n B) : LenT n (mulT A B) := fun x hx => by
  obtain ⟨s, hs, hx⟩ := List.mem_flatMap.1 hx
  obtain ⟨t, ht, rfl⟩ := List.mem_map.1 hx
  exact zip_len (hA s hs) (hB t ht)
theorem right_mul_drv_l {va : Int} {A B : List Tm} {i : Nat} (hA : checkP va A = true) (hB : checkP va B = true) (hi : (i : Int) < va) (h : rightL va (mulT A B) = true) : rightL va (mulT (sortT (drvT i A)) B) = true := by
  have oA := checkP_ok hA
  have oB := checkP_ok hB
  rw [right_mul] at h ⊢
  intro s hs t ht
  obtain ⟨r, hr, e⟩ := mem_sort (drvT i A) (drvT_lenT oA.can.len) s hs
  obtain ⟨u, hu, h0, e2⟩ := mem_drv hr
  have l1 := oA.can.len u hu
  have l2 := oB.can.len t ht
  have hv := oA.v
  rw [← e, e2, zip_set_l u.2 t.2 i _ (by omega) (by omega)]
  have h1 := h u hu t ht
  have h2 := getD_in h1 i
  rw [zip_getD u.2 t.2 i (by omega) (by omega)] at h2
  have h3 := getD_in (oB.rt t ht) i
  exact right_set h1 (by omega) (by omega)
theorem right_mul_comm {va : Int} {A B : List Tm} (h : rightL va (mulT A B) = true) : rightL va (mulT B A) = true := by
  rw [right_mul] at h ⊢
  intro s hs t ht
  rw [zip_comm]; exact h t ht s hs
theorem right_mul_drv_r {va : Int} {A B : List Tm} {i : Nat} (hA : checkP va A = true) (hB : checkP va B = true) (hi : (i : Int) < va) (h : rightL va (mulT A B) = true) : rightL va (mulT A (sortT (drvT i B))) = true :=
  right_mul_comm (right_mul_drv_l hB hA hi (right_mul_comm h))
theorem drvF_lin (F : List Int → UInt64) (i : Nat) (B : List Tm) (e : List Int) : drvF i (fun e => lin (fun f => F (zipE e f)) B) e = lin (fun f => drvF i (fun e' => F (zipE e' f)) e) B := by
  unfold drvF
  split
  · rw [← lin_scale]
  · induction B with
    | nil => rfl
    | cons t B ih => rw [lin, ← ih]; grind
/-- the derivative of a product -/
theorem prod_rule {va : Int} {A B : List Tm} {i : Nat} (hA : checkP va A = true) (hB : checkP va B = true) (hi : (i : Int) < va) :
    sortT (drvT i (sortT (mulT A B))) = sortT (sortT (mulT (sortT (drvT i A)) B) ++ sortT (mulT A (sortT (drvT i B)))) := by
  have oA := checkP_ok hA
  have oB := checkP_ok hB
  have hv := oA.v
  have lA := oA.can.len
  have lB := oB.can.len
  have dA := drvT_lenT (i := i) lA
  have dB := drvT_lenT (i := i) lB
  have cA := (sortT_canon _ dA).len
  have cB := (sortT_canon _ dB).len
  have lM := mulT_lenT lA lB
  have lX := mulT_lenT cA lB
  have lY := mulT_lenT lA cB
  have sM := (sortT_canon _ lM).len
  have lR := (sortT_canon _ lX).len.app (sortT_canon _ lY).len
  refine canon_uniq _ _ (sortT_canon _ (drvT_lenT sM)) (sortT_canon _ lR) fun F => ?_
  rw [lin_sort F _ (drvT_lenT sM), lin_drv, lin_sort _ _ lM, lin_mul]
  rw [lin_sort F _ lR, lin_append, lin_sort F _ lX, lin_sort F _ lY, lin_mul, lin_mul, lin_sort _ _ dA, lin_drv]
  have q1 : lin (drvF i (fun e => lin (fun f => F (zipE e f)) B)) A = lin (fun e => lin (fun f => drvF i (fun e' => F (zipE e' f)) e) B) A :=
    lin_congr (F := drvF i (fun e => lin (fun f => F (zipE e f)) B)) (G := fun e => lin (fun f => drvF i (fun e' => F (zipE e' f)) e) B) fun t _ => drvF_lin F i B t.2
  have q2 : lin (fun e => lin (fun f => F (zipE e f)) (sortT (drvT i B))) A = lin (fun e => lin (drvF i (fun f => F (zipE e f))) B) A :=
    lin_congr (F := fun e => lin (fun f => F (zipE e f)) (sortT (drvT i B))) (G := fun e => lin (drvF i (fun f => F (zipE e f))) B) fun t _ => by
      show lin _ _ = lin _ _
      rw [lin_sort _ _ dB, lin_drv]
  rw [q1, q2, ← lin_add]
  refine lin_congr fun s hs => ?_
  show lin _ B = lin _ B + lin _ B
  rw [← lin_add]
  exact lin_congr fun t ht => drvF_zip F i (rightL_in oA.right s hs) (rightL_in oB.right t ht) (by have := lA s hs; omega) (by have := lB t ht; omega)
theorem drv_twice {n : Nat} {M : List Tm} (h : LenT n M) (i j : Nat) : sortT (drvT j (sortT (drvT i M))) = sortT (drvT i (sortT (drvT j M))) := by
  have di := drvT_lenT (i := i) h
  have dj := drvT_lenT (i := j) h
  have ci := (sortT_canon _ di).len
  have cj := (sortT_canon _ dj).len
  refine canon_uniq _ _ (sortT_canon _ (drvT_lenT ci)) (sortT_canon _ (drvT_lenT cj)) fun F => ?_
  rw [lin_sort F _ (drvT_lenT ci), lin_drv, lin_sort _ _ di, lin_drv, lin_sort F _ (drvT_lenT cj), lin_drv, lin_sort _ _ dj, lin_drv]
  exact lin_congr fun t _ => drvF_comm F i j t.2
end Go.Proofs.Ytcamcnahkdiefaa
