/- Several texts of mine in one file. -/
import Derived.Test.YtcamcnahkdiefaaGreatYMNai
import Derived.ArgAppend
import Derived.Deep.Upon
import Derived.Test.YtcamcnahkdiefaaGreatYMNaa
import Derived.Test.YtcamcnahkdiefaaGreatYMNah
/- Chapter 24: the numbers at first as duals (model.numbers and its closure; model.pass's closure). -/
namespace Go.Proofs.YtcamcnahkdiefaaGreat
set_option linter.unusedVariables false
set_option linter.unusedSimpArgs false
open Go.RowKit
def numAt (all : List UInt64) (i : Int) (k : Nat) : DuD := ⟨all.getD k 0, if (k : Int) = i then 1 else 0⟩
def numS (all : List UInt64) (i : Int) (k n : Nat) : List DuD := (List.range n).map fun j => numAt all i (k + j)
theorem numS_len (all : List UInt64) (i : Int) (k n : Nat) : (numS all i k n).length = n := by simp [numS]
theorem numS_succ (all : List UInt64) (i : Int) (k n : Nat) : numS all i k (n + 1) = numS all i k n ++ [numAt all i (k + n)] := by simp [numS, List.range_succ]
theorem DVar_calls (v : UInt64) (w : World) : Calls Tryz.prog 107 #[.int .u64 (v.toNat : Int)] w fun e w' => e = .returned (.agg #[.int .u64 (v.toNat : Int), .int .u64 1]) ∧ Below w.heap.size w w' := by
  have hF := Blk.new w 111 #[.int .u64 (v.toNat : Int), .int .u64 1]
  go_enter Tryz.func107, Tryz.ntmps107
  go_wp2
  try simp only [Exit.then, Exit.inBlock]
  refine bodyPost_ret (results_row_D rfl _ _ w.heap.size _ #[.int .u64 (v.toNat : Int), .int .u64 1] (0, 0) _ rfl hF Tryz.underlying111 rfl (by kernel_rfl)) rfl ⟨rfl, ?_⟩
  exact below_new12 w _
structure NumAt (w : World) (g3 g4 g5 : Nat) (xa : Option Addr) (xc : Nat) (ta : Option Addr) (tc : Nat) (xs th : List UInt64) (i : Int) : Prop where
  x : Blk w g3 46 #[.slice xa xs.length xc]
  t : Blk w g4 46 #[.slice ta th.length tc]
  i : Blk w g5 3 #[.int .i64 i]
  ax : At w xa xs
  at_ : At w ta th
theorem NumAt.belowN {w w' : World} {g3 g4 g5 : Nat} {xa : Option Addr} {xc : Nat} {ta : Option Addr} {tc : Nat} {xs th : List UInt64} {i : Int} (h : NumAt w g3 g4 g5 xa xc ta tc xs th i) (hb : Below w.heap.size w w') : NumAt w' g3 g4 g5 xa xc ta tc xs th i :=
  ⟨h.x.belowN hb, h.t.belowN hb, h.i.belowN hb, h.ax.belowN hb, h.at_.belowN hb⟩
set_option maxRecDepth 100000 in
set_option maxHeartbeats 3200000 in
theorem Num1_calls (k : Nat) (g3 g4 g5 : Nat) (xa : Option Addr) (xc : Nat) (ta : Option Addr) (tc : Nat) (xs th : List UInt64) (xn tn : Nat) (hxn : xn = xs.length) (htn : tn = th.length) (i : Int) (w : World) (h : NumAt w g3 g4 g5 xa xc ta tc xs th i) (hk : k < xn + tn) (hl : xn + tn ≤ 1000000) (V D : UInt64) (hV : numAt (xs ++ th) i k = ⟨V, D⟩) :
    Calls Tryz.prog 106 #[.int .i64 (k : Int), .pointer (some ⟨g3, 0, none⟩), .pointer (some ⟨g4, 0, none⟩), .pointer (some ⟨g5, 0, none⟩)] w fun e w' => e = .returned (.agg #[.int .u64 (V.toNat : Int), .int .u64 (D.toNat : Int)]) ∧ Below w.heap.size w w' := by
  have hb0 := below_new12 w (.cells #[.int .u64 0, .int .u64 0] 111)
  have hN := Blk.new w 111 #[.int .u64 0, .int .u64 0]
  have h1 := h.belowN hb0
  obtain ⟨x0, x1⟩ := h1.x.c1
  obtain ⟨t0, t1⟩ := h1.t.c1
  obtain ⟨i0, i1⟩ := h1.i.c1
  rw [← hxn] at x0
  rw [← htn] at t0
  have e1 : (xs ++ th).getD k 0 = V := congrArg DuD.v hV
  have e2 : (if (k : Int) = i then (1 : UInt64) else 0) = D := congrArg DuD.d hV
  have HC := hide (fun W => DConst_calls V W)
  have HVV := hide (fun W => DVar_calls V W)
  have hcell : ∀ (W : World), (W.heap.size = w.heap.size + 1) → True := fun _ _ => trivial
  clear hV hcell h
  by_cases hx : k < xn
  · obtain ⟨b, off, v, rfl, hv, c0⟩ := h1.ax.getU (Below.refl _ _) (k := k) (by omega)
    have hvV : v = V := by
      rw [← e1, List.getD_eq_getElem?_getD, List.getElem?_append_left (by omega), hv.out]; rfl
    subst hvV
    clear hv e1 hxn htn
    by_cases hi : (k : Int) = i
    · subst hi
      rw [if_pos rfl] at e2
      subst e2
      go_enter Tryz.func106, Tryz.ntmps106
      go_wp2_with (go_at_call 107; go_must ((with_reducible refine (HVV.out _).mono ?_); rintro e w1 ⟨rfl, hb1⟩; have hN1 := hN.belowN hb1; obtain ⟨n0, n1, n2, n3⟩ := hN1.c2))
      have hF := (hN1.set_ 0 (.int .u64 (v.toNat : Int))).set_ 1 (.int .u64 1)
      refine bodyPost_ret (results_row_D rfl _ _ w.heap.size _ #[.int .u64 (v.toNat : Int), .int .u64 1] (0, 0) _ rfl hF Tryz.underlying111 rfl (by kernel_rfl)) rfl ⟨rfl, ?_⟩
      exact ((hb0.trans (hb1.mono hb0.size)).setCell (p := ⟨w.heap.size, 0, none⟩) (Nat.le_refl _) _).setCell (p := ⟨w.heap.size, 1, none⟩) (Nat.le_refl _) _
    · rw [if_neg hi] at e2
      subst e2
      have d1 : ((k : Int) == i) = false := by simpa using hi
      clear hi
      go_enter Tryz.func106, Tryz.ntmps106
      go_wp2_with (go_at_call 105; go_must ((with_reducible refine (HC.out _).mono ?_); rintro e w1 ⟨rfl, hb1⟩; have hN1 := hN.belowN hb1; obtain ⟨n0, n1, n2, n3⟩ := hN1.c2))
      have hF := (hN1.set_ 0 (.int .u64 (v.toNat : Int))).set_ 1 (.int .u64 0)
      refine bodyPost_ret (results_row_D rfl _ _ w.heap.size _ #[.int .u64 (v.toNat : Int), .int .u64 0] (0, 0) _ rfl hF Tryz.underlying111 rfl (by kernel_rfl)) rfl ⟨rfl, ?_⟩
      exact ((hb0.trans (hb1.mono hb0.size)).setCell (p := ⟨w.heap.size, 0, none⟩) (Nat.le_refl _) _).setCell (p := ⟨w.heap.size, 1, none⟩) (Nat.le_refl _) _
  · obtain ⟨m, rfl⟩ : ∃ m, k = xn + m := ⟨k - xn, by omega⟩
    have hm : m < tn := by omega
    obtain ⟨b, off, v, rfl, hv, c0⟩ := h1.at_.getU (Below.refl _ _) (k := m) (by omega)
    have hvV : v = V := by
      rw [← e1, List.getD_eq_getElem?_getD, List.getElem?_append_right (by omega), ← hxn, Nat.add_sub_cancel_left, hv.out]; rfl
    subst hvV
    have hsub : ((xn + m : Nat) : Int) - (xn : Int) = (m : Int) := by omega
    clear hv e1 hxn htn
    by_cases hi : ((xn + m : Nat) : Int) = i
    · subst hi
      rw [if_pos rfl] at e2
      subst e2
      go_enter Tryz.func106, Tryz.ntmps106
      go_wp2_with (go_at_call 107; go_must ((with_reducible refine (HVV.out _).mono ?_); rintro e w1 ⟨rfl, hb1⟩; have hN1 := hN.belowN hb1; obtain ⟨n0, n1, n2, n3⟩ := hN1.c2))
      have hF := (hN1.set_ 0 (.int .u64 (v.toNat : Int))).set_ 1 (.int .u64 1)
      refine bodyPost_ret (results_row_D rfl _ _ w.heap.size _ #[.int .u64 (v.toNat : Int), .int .u64 1] (0, 0) _ rfl hF Tryz.underlying111 rfl (by kernel_rfl)) rfl ⟨rfl, ?_⟩
      exact ((hb0.trans (hb1.mono hb0.size)).setCell (p := ⟨w.heap.size, 0, none⟩) (Nat.le_refl _) _).setCell (p := ⟨w.heap.size, 1, none⟩) (Nat.le_refl _) _
    · rw [if_neg hi] at e2
      subst e2
      have d1 : (((xn + m : Nat) : Int) == i) = false := by simpa using hi
      have d2 : ((xn : Int) + (m : Int) == i) = false := by rw [← d1]; simp
      clear hi
      go_enter Tryz.func106, Tryz.ntmps106
      go_wp2_with (go_at_call 105; go_must ((with_reducible refine (HC.out _).mono ?_); rintro e w1 ⟨rfl, hb1⟩; have hN1 := hN.belowN hb1; obtain ⟨n0, n1, n2, n3⟩ := hN1.c2))
      have hF := (hN1.set_ 0 (.int .u64 (v.toNat : Int))).set_ 1 (.int .u64 0)
      refine bodyPost_ret (results_row_D rfl _ _ w.heap.size _ #[.int .u64 (v.toNat : Int), .int .u64 0] (0, 0) _ rfl hF Tryz.underlying111 rfl (by kernel_rfl)) rfl ⟨rfl, ?_⟩
      exact ((hb0.trans (hb1.mono hb0.size)).setCell (p := ⟨w.heap.size, 0, none⟩) (Nat.le_refl _) _).setCell (p := ⟨w.heap.size, 1, none⟩) (Nat.le_refl _) _
abbrev numF (g3 g4 g5 : Nat) : Value := .func (.func 106) #[] #[.pointer (some ⟨g3, 0, none⟩), .pointer (some ⟨g4, 0, none⟩), .pointer (some ⟨g5, 0, none⟩)]
set_option maxRecDepth 100000 in
set_option maxHeartbeats 3200000 in
theorem State_calls (k n gs : Nat) (g3 g4 g5 : Nat) (xa : Option Addr) (xc : Nat) (ta : Option Addr) (tc : Nat) (xs th : List UInt64) (xn tn : Nat) (hxn : xn = xs.length) (htn : tn = th.length) (i : Int) (w : World) (h : NumAt w g3 g4 g5 xa xc ta tc xs th i) (hS : Blk w gs 113 #[numF g3 g4 g5]) (hk : k + n ≤ xn + tn) (hl : xn + tn ≤ 1000000) :
    Calls Tryz.prog 104 #[.int .i64 (k : Int), .int .i64 (n : Int), .pointer (some ⟨gs, 0, none⟩)] w fun e w' => ∃ a' c', e = .returned (.slice a' n c') ∧ Own w' w.heap.size 111 a' c' (numS (xs ++ th) i k n) ∧ Below w.heap.size w w' := by
  have HN := hide (fun (W : World) (j : Nat) (hW : Below w.heap.size w W) (hj : j < xn + tn) (V D : UInt64) (hV : numAt (xs ++ th) i j = ⟨V, D⟩) => Num1_calls j g3 g4 g5 xa xc ta tc xs th xn tn hxn htn i W (h.belowN hW) hj hl V D hV)
  clear hxn htn h
  go_enter Tryz.func104, Tryz.ntmps104
  go_wp2_with fail
  go_loopw [6, 9] (fun rv iv wr => ∃ (j : Nat) (a' : Option Addr) (c' : Nat), rv = .slice a' j c' ∧ iv = .int .i64 j ∧ j ≤ n ∧ Own wr w.heap.size 111 a' c' (numS (xs ++ th) i k j) ∧ Below w.heap.size w wr) (fun _ iv _ => n - (intOf iv).toNat)
  case atStart => exact ⟨0, none, 0, rfl, rfl, by omega, Own.none _ _ _, Below.refl _ _⟩
  case round =>
    obtain ⟨j, a', c', rfl, rfl, hj, hown, hb⟩ := hrel
    have hz := hb.size
    obtain ⟨s0, s1⟩ := (hS.belowN hb).c1
    by_cases hlt : j < n
    · obtain ⟨⟨V, D⟩, hV⟩ : ∃ x, numAt (xs ++ th) i (k + j) = x := ⟨_, rfl⟩
      have HV := hide (HN.out wr (k + j) hb (by omega) V D hV)
      have HL := hide (numS_len (xs ++ th) i k j).symm
      have HT := hide (show numS (xs ++ th) i k (j + 1) = numS (xs ++ th) i k j ++ [⟨V, D⟩] by rw [numS_succ, hV])
      have hkj : ((k + j : Nat) : Int) = (k : Int) + (j : Int) := by omega
      rw [hkj] at HV
      clear hV hkj
      go_wp2_with (first
        | (at_builtin; go_must (have hgd := hb9; refine wpList_push tyD hown9 ⟨V, D⟩ rfl rfl rfl rfl rfl rfl HL.out hz9 (by omega) ?_; intro a4 c4 w4 hown4 hg4 hcs4))
        | (go_at_call 106; go_must ((with_reducible refine (HV.out).mono ?_); rintro vv w9 ⟨rfl, hb9⟩; have hown9 := hown.belowN hb9; have hz9 := Nat.le_trans hz hb9.size)))
      go_roundw
      case rel => exact ⟨j + 1, a4, c4, by go_num, by go_num, by omega, by rw [HT.out]; exact hown4, below_push (hb.trans (hb9.mono hz)) hown9 hg4 hz9⟩
      case measure => simp [intOf] <;> omega
    · have hjn : j = n := by omega
      subst hjn
      go_wp2
      go_ret
      exact ⟨a', c', rfl, hown, hb⟩
end Go.Proofs.YtcamcnahkdiefaaGreat

/- Slices that may be appended to without turning what is old: the call's own, and full ones. -/
namespace Go.Proofs.YtcamcnahkdiefaaGreat
set_option linter.unusedVariables false
set_option linter.unusedSimpArgs false
open Go.RowKit
section
variable {P : Program} {α : Type} [Flat α]
theorem At.news {w : World} {ad : Addr} {l : List α} (h : At w (some ad) l) : ∀ j u, (l.flatMap Flat.enc)[j]? = some u → w.cell? (ad.add j) = some u := by
  intro j u hu
  have hj : j < l.length * Flat.n α := by rw [← enc_length]; exact (List.getElem?_eq_some_iff.1 hu).1
  have hp : 0 < Flat.n α := Flat.pos
  have hi' : j / Flat.n α < l.length := (Nat.div_lt_iff_lt_mul hp).2 hj
  have hx := List.getElem?_eq_getElem hi'
  obtain ⟨b, off, e, h2⟩ := h _ _ hx
  injection e with e
  subst e
  have hf : j % Flat.n α < (Flat.enc l[j / Flat.n α]).length := by rw [Flat.len]; exact Nat.mod_lt _ hp
  have h3 := enc_flat l _ _ hx _ _ (List.getElem?_eq_getElem hf)
  have hdm : j / Flat.n α * Flat.n α + j % Flat.n α = j := by rw [Nat.mul_comm]; exact Nat.div_add_mod j _
  rw [hdm, hu] at h3
  have h4 := h2 _ _ (List.getElem?_eq_getElem hf)
  rw [addr_add, ← h3] at *
  rw [← h4]
  congr 2
  omega
def Gr (w : World) (B : Nat) (E : TypeId) (a : Option Addr) (c : Nat) (l : List α) : Prop := Own w B E a c l ∨ (At w a l ∧ c = l.length)
theorem Gr.at_ {w : World} {B : Nat} {E : TypeId} {a : Option Addr} {c : Nat} {l : List α} (h : Gr w B E a c l) : At w a l := h.elim (·.at_) (·.1)
theorem Gr.belowN {w w' : World} {B : Nat} {E : TypeId} {a : Option Addr} {c : Nat} {l : List α} (h : Gr w B E a c l) (hb : Below w.heap.size w w') : Gr w' B E a c l := h.imp (·.belowN hb) (fun h => ⟨h.1.belowN hb, h.2⟩)
theorem run_append_gr {w : World} {T E : TypeId} (ty : Ty P T E α) {B : Nat} {a : Option Addr} {c : Nat} {l : List α} (own : Gr w B E a c l) {a2 : Option Addr} {c2 : Nat} {l2 : List α} (src : At w a2 l2) (t0 : TypeId)
    (hB : B ≤ w.heap.size) (hl : l.length ≤ 1000000000) (hl2 : l2.length ≤ 1000000000) :
    ∃ a' c' w', (Builtin.append_ #[T, T] t0 #[.slice a l.length c, .slice a2 l2.length c2]).run P w = .ok (.slice a' (l.length + l2.length) c') w' ∧ Gr w' B E a' c' (l ++ l2) ∧ Below B w w' ∧ w.grownBy w' (a.map (·.block)) ∧ (a'.map (·.block) = a.map (·.block) ∨ ∃ g, a'.map (·.block) = some g ∧ w.heap.size ≤ g) := by
  rcases own with own | ⟨hat, hc⟩
  · obtain ⟨a', c', w', h1, h2, h3, h4⟩ := run_append_all ty own src t0 hB hl hl2 (c2 := c2)
    exact ⟨a', c', w', h1, .inl h2, below_push (Below.refl _ _) own h3 hB, h3, h4⟩
  · subst hc
    obtain ⟨i, z, hi, hz, hsz, hby, hzs⟩ := ty.info
    by_cases h0 : l2 = []
    · subst h0
      have hs : Src P i.size T (.slice a2 ([] : List α).length c2) 0 [] w := by
        cases a2 with
        | none => exact Src.ofNil w ty.und c2
        | some ad => exact Src.ofSlice w ty.und ad 0 c2 [] (by simp) (fun j u hu => by cases hu) (fun u hu => by cases hu)
      refine ⟨a, l.length, w, run_append_nothing w T T t0 E i ty.und hi a l.length l.length (Nat.le_refl _) _ hs, .inr ⟨by rw [List.append_nil]; exact hat, by simp⟩, Below.refl _ _, World.grownBy.refl w _, .inl rfl⟩
    · obtain ⟨b2, off2, rfl, _⟩ := src.lt h0
      have hlen : 0 < l2.length := List.length_pos_iff.2 h0
      cases a with
      | none =>
        have hl0 : l = [] := by
          cases l with
          | nil => rfl
          | cons x r => obtain ⟨b, off, h, _⟩ := hat 0 x rfl; cases h
        subst hl0
        obtain ⟨a', c', w', h1, h2, h3, h4⟩ := run_append_all ty (Own.none w B E : Own w B E none 0 ([] : List α)) src t0 hB hl hl2 (c2 := c2)
        exact ⟨a', c', w', h1, .inl h2, below_push (Below.refl _ _) (Own.none w B E : Own w B E none 0 ([] : List α)) h3 hB, h3, h4⟩
      | some ad1 =>
        obtain ⟨v', w', hr, h2, h3⟩ := run_append_arg_grows (P := P) w T t0 E i z (Flat.n α) i.bytes ty.und hi hz hsz rfl hzs Flat.pos ad1 l.length l.length _ (enc_length l) hat.news ⟨b2, off2, none⟩ l2.length c2 _ (enc_length l2) src.news (by omega) (by simp only [maxLen]; omega) (Nat.le_trans (Nat.mul_le_mul (show l.length + l2.length ≤ 2000000000 by omega) hby) (by decide))
        have hform : ∃ a' c', v' = .slice a' (l.length + l2.length) c' := by
          rcases h2.2 with ⟨rfl, h0⟩ | ⟨g, cap, cur, rfl, _⟩
          · omega
          · exact ⟨_, _, rfl⟩
        obtain ⟨a', c', rfl⟩ := hform
        have ho : Own w' w.heap.size E a' c' (l ++ l2) := by
          unfold Own
          rw [List.flatMap_append, List.length_append]
          exact h2
        have hne : l ++ l2 ≠ [] := fun e => h0 (List.append_eq_nil_iff.1 e).2
        obtain ⟨g, e1, e2, _⟩ := ho.some_ hne
        exact ⟨a', c', w', hr, .inl (ho.mono hB), (below_of_grown h3).mono hB, grown_of_below (below_of_grown h3) _, .inr ⟨g, by rw [e1]; rfl, e2⟩⟩
variable {ops : Array Oper} {o : Oper} {act : Act} {K : Act → World → Prop} {Q : Exit → Act → World → Prop} {E' : Prop}
theorem step_gr {w : World} {T E : TypeId} (ty : Ty P T E α) {B : Nat} {a : Option Addr} {c : Nat} {l : List α} (own : Gr w B E a c l) {a2 : Option Addr} {c2 : Nat} {l2 : List α} (src : At w a2 l2) {s x : Operand} (hgd : o.guard = none)
    (ho : o.op = .call { callee := .builtin .append, args := #[s, x], argTypes := #[T, T] })
    {n n2 : Nat} (hs : act.eval s = .slice a n c) (hx : act.eval x = .slice a2 n2 c2) (hn : n = l.length) (hn2 : n2 = l2.length) (hB : B ≤ w.heap.size) (hl : n ≤ 1000000000) (hl2 : n2 ≤ 1000000000)
    (h : ∀ a' c' w', Gr w' B E a' c' (l ++ l2) → Below B w w' → w.grownBy w' (a.map (·.block)) → (a'.map (·.block) = a.map (·.block) ∨ ∃ g, a'.map (·.block) = some g ∧ w.heap.size ≤ g) → K (act.put o.dst (.slice a' (n + n2) c')) w') :
    if Region.wanted o (yielded ops act.tmps) = true then Oper.wp P o act w K Q else E' := by
  have hw : Region.wanted o (yielded ops act.tmps) = true := by simp [Region.wanted, hgd]
  rw [if_pos hw]
  subst hn hn2
  obtain ⟨a', c', w', hr, h1, h2, h3, h4⟩ := run_append_gr ty own src o.type hB hl hl2 (c2 := c2)
  unfold Oper.wp execOp
  simp only [ho, resolve, invoke, builtin, Sem.run_bind, Sem.run_pure, Result.andThen_ok, List.map_toArray, List.map_cons, List.map_nil, hs, hx, hr]
  exact h a' c' w' h1 h2 h3 h4
end
end Go.Proofs.YtcamcnahkdiefaaGreat

/- A region that draws its order: reads wherever they stand, then operations one behind the other that leave what is read, then what waits for all reads. -/
namespace Go.Proofs.YtcamcnahkdiefaaGreat
set_option linter.unusedVariables false
set_option linter.unusedSimpArgs false
open Go.RowKit
section
variable {P : Program} {l : List Oper} {Q : Exit → Act → World → Prop} {md : Region.Mode} {S : World → Prop} {late : Nat → Bool}
def pickL (l : List Oper) (is : List Nat) : List Oper := is.filterMap fun i => l[i]?
theorem pickL_cons {l : List Oper} {i : Nat} {o : Oper} (h : l[i]? = some o) (is : List Nat) : pickL l (i :: is) = o :: pickL l is := by
  unfold pickL; rw [List.filterMap_cons, h]
def goHeadL (md : Region.Mode) (ops : Array Oper) : List Nat → Array Bool → Option (Array Bool)
  | [], done => some done
  | i :: is, done => if (Region.ready md ops done).contains i && Region.free md ops done i then goHeadL md ops is (done.setIfInBounds i true) else none
def seqL (md : Region.Mode) (ops : Array Oper) : List Nat → Array Bool → Bool
  | [], done => decide (Region.ready md ops done = [])
  | i :: is, done => decide (Region.ready md ops done = [i]) && seqL md ops is (done.setIfInBounds i true)
theorem ready_op {ops : Array Oper} {done : Array Bool} {i : Nat} (h : i ∈ Region.ready md ops done) : ∃ o, ops[i]? = some o := by
  obtain ⟨_, oj, hoj, _⟩ := mem_ready.1 h
  exact ⟨oj, hoj⟩
theorem anyK_headL {g : Nat} {fin : Array Bool} (hs : Region.noSelect l.toArray = true) (hQ : ∀ c a w i v, Q (.panic c) (Act.put a i v) w → Q (.panic c) a w) :
    ∀ (is : List Nat) (done : Array Bool) (a : Act) (w : World), (∀ i ∈ is, ∀ j oj, l.toArray[j]? = some oj → late j = true → ∃ e ∈ oj.after, Region.binds md e = true ∧ e.on = i) →
      goHeadL md l.toArray is done = some fin → S w → headK P l.toArray S (fun a' => anyK P md l.toArray Q S late g fin a' w) (pickL l is) a → anyK P md l.toArray Q S late (is.length + g) done a w
  | [], done, a, w, _, hg, hS, h => by
    simp only [goHeadL, Option.some.injEq] at hg
    subst hg
    rw [List.length_nil, Nat.zero_add]
    exact h
  | i :: is, done, a, w, hlate, hg, hS, h => by
    simp only [goHeadL] at hg
    split at hg
    · rename_i hc
      simp only [Bool.and_eq_true] at hc
      have hi : i ∈ Region.ready md l.toArray done := by simpa using hc.1
      obtain ⟨o, h0⟩ := ready_op hi
      rw [pickL_cons (by simpa using h0)] at h
      obtain ⟨v, hy, hK⟩ := h
      rw [List.length_cons, show is.length + 1 + g = is.length + g + 1 by omega]
      exact anyK_take h0 (Region.noSelect_spec hs) (fun c a w => hQ c a w _ _) (hlate i List.mem_cons_self) _ _ _ _ (Region.free_spec h0 hc.2) hi hy hS
        (anyK_headL hs hQ is _ _ w (fun j hj => hlate j (List.mem_cons_of_mem _ hj)) hg hS hK)
    · cases hg
theorem anyK_seqL : ∀ (is : List Nat) (done : Array Bool) (a : Act) (w : World), (∀ i ∈ is, late i = true) →
    seqL md l.toArray is done = true → wpList P l.toArray Q (pickL l is) a w → anyK P md l.toArray Q S late is.length done a w
  | [], _, _, _, _, hB, h => ⟨by simpa [seqL] using hB, h⟩
  | i :: is, done, a, w, hL, hB, h => by
    simp only [seqL, Bool.and_eq_true, decide_eq_true_eq] at hB
    obtain ⟨o, h0⟩ := ready_op (md := md) (i := i) (ops := l.toArray) (done := done) (by rw [hB.1]; simp)
    rw [pickL_cons (by simpa using h0)] at h
    refine ⟨fun h1 => (by rw [hB.1] at h1; cases h1), fun j hj => ?_⟩
    rw [hB.1] at hj
    have hij : j = i := by simpa using hj
    subst hij
    have hw : wpOp P l.toArray Q j (wpList P l.toArray Q (pickL l is)) a w := by unfold wpOp; simp only [h0]; exact h
    exact wpOp_mono (fun a' w' h' => ⟨.inl (hL j List.mem_cons_self), anyK_seqL is _ a' w' (fun x hx => hL x (List.mem_cons_of_mem _ hx)) hB.2 h'⟩) hw
theorem anyK_midL {tl : List Nat} : ∀ (mid : List Nat) (done : Array Bool) (a : Act) (w : World), (∀ j ∈ tl, late j = true) →
    seqL md l.toArray (mid ++ tl) done = true → midK P l.toArray Q S (pickL l mid) (pickL l tl) a w → anyK P md l.toArray Q S late (mid ++ tl).length done a w
  | [], done, a, w, hL, hB, h => anyK_seqL tl done a w hL hB h
  | i :: mid, done, a, w, hL, hB, h => by
    simp only [List.cons_append, List.length_cons, seqL, Bool.and_eq_true, decide_eq_true_eq] at hB
    obtain ⟨o, h0⟩ := ready_op (md := md) (i := i) (ops := l.toArray) (done := done) (by rw [hB.1]; simp)
    rw [pickL_cons (by simpa using h0)] at h
    refine ⟨fun h1 => (by rw [hB.1] at h1; cases h1), fun j hj => ?_⟩
    rw [hB.1] at hj
    have hij : j = i := by simpa using hj
    subst hij
    unfold wpOp
    simp only [h0]
    have h1 := h (fun a' w' => (late j = true ∨ S w') ∧ anyK P md l.toArray Q S late (mid ++ tl).length (done.setIfInBounds j true) a' w') (fun a2 w2 hs2 hw2 => ⟨.inr hs2,
      anyK_midL mid _ a2 w2 hL hB.2 hw2⟩)
    split
    · rename_i hw; rw [if_pos hw] at h1; exact .inl h1
    · rename_i hw; rw [if_neg hw] at h1; exact h1
def listB (ops : Array Oper) (hd mid tl : List Nat) : Bool :=
  Region.noSelect ops && decide (hd.length + (mid ++ tl).length = ops.size) && (tl.all fun j => hd.all fun i => Region.waitsFor .any ops j i) &&
  match goHeadL .any ops hd (Array.replicate ops.size false) with
    | some fin => seqL .any ops (mid ++ tl) fin
    | none => false
theorem wp_region_list {id : Nat} {a : Act} {w : World} (hd mid tl : List Nat) (S : World → Prop) (hm : P.follows .mixedOrders = true) (hB : listB l.toArray hd mid tl = true) (hS : S w.drew)
    (h : headK P l.toArray S (fun a' => midK P l.toArray (NoPanic Q) S (pickL l mid) (pickL l tl) a' w.drew) (pickL l hd) a) : (Code.region id l.toArray true).wp P Q a w := by
  refine wp_region_noPanic (wp_region_any hm ?_)
  simp only [listB, Bool.and_eq_true, decide_eq_true_eq] at hB
  obtain ⟨⟨⟨hs, hn⟩, hlB⟩, hg⟩ := hB
  cases hgo : goHeadL .any l.toArray hd (Array.replicate l.toArray.size false) with
  | none => rw [hgo] at hg; cases hg
  | some fin =>
    rw [hgo] at hg
    simp only at hg
    refine anyK_any (S := S) (late := fun j => tl.contains j) _ _ _ _ ?_
    have key : ∀ (ll : List Oper) (a0 : Act), headK P l.toArray S (fun a' => midK P l.toArray (NoPanic Q) S (pickL l mid) (pickL l tl) a' w.drew) ll a0 →
        headK P l.toArray S (fun a' => anyK P .any l.toArray (NoPanic Q) S (fun j => tl.contains j) (mid ++ tl).length fin a' w.drew) ll a0 := by
      intro ll
      induction ll with
      | nil =>
        intro a0 h0
        exact anyK_midL mid fin a0 _ (fun j hj => by simpa using hj) hg h0
      | cons o ll ih =>
        intro a0 h0
        obtain ⟨v, hy, hK⟩ := h0
        exact ⟨v, hy, ih _ hK⟩
    have h1 := anyK_headL (Q := NoPanic Q) (late := fun j => tl.contains j) (g := (mid ++ tl).length) (fin := fin) hs (fun c a w i v hq => by cases hq) hd (Array.replicate l.toArray.size false) a w.drew (fun i hi j oj hj hlt => by
      have hjt : j ∈ tl := by simpa using hlt
      have h3 := List.all_eq_true.1 (List.all_eq_true.1 hlB j hjt) i hi
      obtain ⟨o', ho', e, he, hb, hon⟩ := Region.waitsFor_spec h3
      obtain rfl : o' = oj := Option.some.inj (ho'.symm.trans hj)
      exact ⟨e, he, hb, hon⟩) hgo hS (key _ _ h)
    rw [hn] at h1
    exact h1
end
end Go.Proofs.YtcamcnahkdiefaaGreat

/- A region that draws its order: reads wherever they stand, then operations one behind the other that leave what is read, then pure ones that may come anywhere behind, and the tail; what is late waits for the reads by way of others. -/
namespace Go.Proofs.YtcamcnahkdiefaaGreat
set_option linter.unusedVariables false
set_option linter.unusedSimpArgs false
open Go.RowKit
section
variable {P : Program} {ops : Array Oper} {Q : Exit → Act → World → Prop} {md : Region.Mode} {S : World → Prop} {late : Nat → Bool}
def Shut (md : Region.Mode) (ops : Array Oper) (done : Array Bool) : Prop := ∀ k ok, ops[k]? = some ok → done.getD k true = true → ∀ e ∈ ok.after, Region.binds md e = true → done.getD e.on false = true
theorem Shut.new : Shut md ops (Array.replicate ops.size false) := fun k ok hk h => by
  have hlt := (Array.getElem?_eq_some_iff.1 hk).1
  simp [Array.getD, hlt] at h
theorem Shut.take {done : Array Bool} (h : Shut md ops done) {j : Nat} (hj : j ∈ Region.ready md ops done) : Shut md ops (done.setIfInBounds j true) := fun k ok hk hd e he hb => by
  by_cases e1 : j = k
  · subst e1
    obtain ⟨_, oj, hoj, hall⟩ := mem_ready.1 hj
    obtain rfl : oj = ok := Option.some.inj (hoj.symm.trans hk)
    exact getD_set_true (hall e he hb)
  · rw [getD_set_ne true e1] at hd
    exact getD_set_true (h k ok hk hd e he hb)
def farB (md : Region.Mode) (ops : Array Oper) : Nat → Nat → Nat → Bool
  | 0, _, _ => false
  | n + 1, j, i => match ops[j]? with
    | none => false
    | some o => o.after.any fun e => Region.binds md e && (decide (e.on = i) || farB md ops n e.on i)
theorem getD_ft {done : Array Bool} {k : Nat} (h : done.getD k false = true) : done.getD k true = true := by
  rcases Nat.lt_or_ge k done.size with h' | h'
  · simp [Array.getD, h'] at h ⊢; exact h
  · simp [Array.getD, Nat.not_lt.2 h'] at h
theorem getD_tf {done : Array Bool} {k : Nat} (h : done.getD k true = false) : done.getD k false = false := by
  rcases Nat.lt_or_ge k done.size with h' | h'
  · simp [Array.getD, h'] at h ⊢; exact h
  · simp [Array.getD, Nat.not_lt.2 h'] at h
theorem far_shut {done : Array Bool} (hS : Shut md ops done) {i : Nat} (hi : done.getD i false = false) : ∀ (n j : Nat), farB md ops n j i = true → done.getD j true = true → False
  | 0, j, h, _ => by simp [farB] at h
  | n + 1, j, h, hd => by
    unfold farB at h
    cases ho : ops[j]? with
    | none => rw [ho] at h; cases h
    | some o =>
      rw [ho] at h
      obtain ⟨k, hk, h1⟩ := Array.any_eq_true.1 h
      simp only [Bool.and_eq_true, Bool.or_eq_true, decide_eq_true_eq] at h1
      have h2 := hS j o ho hd o.after[k] (Array.getElem_mem hk) h1.1
      rcases h1.2 with e | e
      · rw [e, hi] at h2; cases h2
      · exact far_shut hS hi n _ e (getD_ft h2)
theorem far_ready {done : Array Bool} (hS : Shut md ops done) {i j n : Nat} (hi : done.getD i false = false) (hj : j ∈ Region.ready md ops done) (h : farB md ops n j i = true) : False := by
  cases n with
  | zero => simp [farB] at h
  | succ n =>
    unfold farB at h
    obtain ⟨_, o, ho, hall⟩ := mem_ready.1 hj
    rw [ho] at h
    obtain ⟨k, hk, h1⟩ := Array.any_eq_true.1 h
    simp only [Bool.and_eq_true, Bool.or_eq_true, decide_eq_true_eq] at h1
    have h2 := hall o.after[k] (Array.getElem_mem hk) h1.1
    rcases h1.2 with e | e
    · rw [e, hi] at h2; cases h2
    · exact far_shut hS hi n _ e (getD_ft h2)
def brk (late : Nat → Bool) (done : Array Bool) : Prop := ∃ k, late k = true ∧ done.getD k false = true
def anyB (P : Program) (md : Region.Mode) (ops : Array Oper) (Q : Exit → Act → World → Prop) (S : World → Prop) (late : Nat → Bool) : Nat → Array Bool → Act → World → Prop
  | 0, done, a, w => Region.ready md ops done = [] ∧ Q .normal a w
  | n + 1, done, a, w => (Region.ready md ops done = [] → Q .normal a w) ∧
    ∀ i ∈ Region.ready md ops done, wpOp P ops Q i (fun a' w' => (brk late done ∨ late i = true ∨ S w') ∧ anyB P md ops Q S late n (done.setIfInBounds i true) a' w') a w
theorem anyB_any : ∀ (n : Nat) (done : Array Bool) (a : Act) (w : World), anyB P md ops Q S late n done a w → wpAny P md ops Q n done a w
  | 0, _, _, _, h => h
  | n + 1, _, _, _, h => ⟨h.1, fun i hi => wpOp_mono (fun a' w' h' => anyB_any n _ a' w' h'.2) (h.2 i hi)⟩
theorem anyB_take {i : Nat} {oi : Oper} {v : Value} (hi : ops[i]? = some oi) (hsel : ∀ (j : Nat) (o : Oper) cs b, ops[j]? = some o → o.op ≠ .select cs b)
    (hQ : ∀ c a w, Q (.panic c) (a.put oi.dst v) w → Q (.panic c) a w) (hlate : ∀ j, late j = true → farB md ops ops.size j i = true) :
    ∀ (n : Nat) (done : Array Bool) (a : Act) (w : World), Shut md ops done →
      (∀ j oj, ops[j]? = some oj → j ≠ i → done.getD j true = false → (∀ e ∈ oj.after, Region.binds md e = true → e.on ≠ i) → oi.apart ops oj = true) →
      i ∈ Region.ready md ops done → YieldsIf P ops S oi v a → S w → anyB P md ops Q S late n (done.setIfInBounds i true) (a.put oi.dst v) w → anyB P md ops Q S late (n + 1) done a w := by
  intro n
  induction n with
  | zero =>
    intro done a w _ _ hr hy hS H
    refine ⟨fun h => (by rw [h] at hr; cases hr), fun j hj => ?_⟩
    by_cases e : j = i
    · subst e; exact hy.wpOp hi hS ⟨.inr (.inr hS), H⟩
    · have := ready_mono hj e
      rw [H.1] at this
      cases this
  | succ n ih =>
    intro done a w hsh hfree hr hy hS H
    refine ⟨fun h => (by rw [h] at hr; cases hr), fun j hj => ?_⟩
    by_cases e : j = i
    · subst e; exact hy.wpOp hi hS ⟨.inr (.inr hS), H⟩
    · have h1 := H.2 j (ready_mono hj e)
      obtain ⟨hun, oj, hoj, hall⟩ := mem_ready.1 hj
      have hin := getD_tf (mem_ready.1 hr).1
      have hno : ∀ x ∈ oj.after, Region.binds md x = true → x.on ≠ i := fun x hx hb hq => by
        have g1 := hall x hx hb
        rw [hq, hin] at g1
        cases g1
      have hnl : late j ≠ true := fun hl => far_ready hsh hin hj (hlate j hl)
      have hnb : ¬ brk late (done.setIfInBounds i true) := by
        rintro ⟨k, hk1, hk2⟩
        by_cases ek : i = k
        · subst ek; exact far_ready hsh hin hr (hlate i hk1)
        · rw [getD_set_ne false ek] at hk2
          exact far_shut hsh hin _ k (hlate k hk1) (getD_ft hk2)
      have h2 := wpOp_putIf hoj (hfree j oj hoj e hun hno) (fun cs b => hsel i oi cs b hi) (fun cs b => hsel j oj cs b hoj) hQ hy h1
      refine wpOp_mono (fun a' w' h3 => ?_) h2
      have hS' : S w' := (h3.2.1.resolve_left hnb).resolve_left hnl
      refine ⟨.inr (.inr hS'), ih (done.setIfInBounds j true) a' w' (hsh.take hj) (fun k ok hk hki hu hn => ?_) (ready_mono hr (Ne.symm e)) h3.1 hS' ?_⟩
      · refine hfree k ok hk hki ?_ hn
        by_cases hjk : j = k
        · subst hjk; exact hun
        · rw [getD_set_ne true hjk] at hu; exact hu
      · rw [Array.setIfInBounds_comm _ _ e]
        exact h3.2.2
theorem anyB_takeT {i : Nat} {oi : Oper} {v : Value} (hi : ops[i]? = some oi) (hsel : ∀ (j : Nat) (o : Oper) cs b, ops[j]? = some o → o.op ≠ .select cs b)
    (hQ : ∀ c a w, Q (.panic c) (a.put oi.dst v) w → Q (.panic c) a w) (hil : late i = false) :
    ∀ (n : Nat) (done : Array Bool) (a : Act) (w : World),
      (∀ j oj, ops[j]? = some oj → j ≠ i → done.getD j true = false → (∀ e ∈ oj.after, Region.binds md e = true → e.on ≠ i) → oi.apart ops oj = true) →
      i ∈ Region.ready md ops done → YieldsIf P ops (fun _ => True) oi v a → (brk late done ∨ S w) → anyB P md ops Q S late n (done.setIfInBounds i true) (a.put oi.dst v) w → anyB P md ops Q S late (n + 1) done a w := by
  intro n
  induction n with
  | zero =>
    intro done a w _ hr hy hS H
    refine ⟨fun h => (by rw [h] at hr; cases hr), fun j hj => ?_⟩
    by_cases e : j = i
    · subst e; exact hy.wpOp hi trivial ⟨hS.elim .inl (fun h => .inr (.inr h)), H⟩
    · have := ready_mono hj e
      rw [H.1] at this
      cases this
  | succ n ih =>
    intro done a w hfree hr hy hS H
    refine ⟨fun h => (by rw [h] at hr; cases hr), fun j hj => ?_⟩
    by_cases e : j = i
    · subst e; exact hy.wpOp hi trivial ⟨hS.elim .inl (fun h => .inr (.inr h)), H⟩
    · have h1 := H.2 j (ready_mono hj e)
      obtain ⟨hun, oj, hoj, hall⟩ := mem_ready.1 hj
      have hin := getD_tf (mem_ready.1 hr).1
      have hno : ∀ x ∈ oj.after, Region.binds md x = true → x.on ≠ i := fun x hx hb hq => by
        have g1 := hall x hx hb
        rw [hq, hin] at g1
        cases g1
      have hnb : brk late (done.setIfInBounds i true) → brk late done := by
        rintro ⟨k, hk1, hk2⟩
        by_cases ek : i = k
        · subst ek; rw [hil] at hk1; cases hk1
        · rw [getD_set_ne false ek] at hk2
          exact ⟨k, hk1, hk2⟩
      have h2 := wpOp_putIf hoj (hfree j oj hoj e hun hno) (fun cs b => hsel i oi cs b hi) (fun cs b => hsel j oj cs b hoj) hQ hy h1
      refine wpOp_mono (fun a' w' h3 => ?_) h2
      have hc : brk late done ∨ late j = true ∨ S w' := h3.2.1.imp hnb id
      have hjr : j < done.size := by
        rcases Nat.lt_or_ge j done.size with h' | h'
        · exact h'
        · have := (mem_ready.1 hj).1
          simp [Array.getD, Nat.not_lt.2 h'] at this
      have hc2 : brk late (done.setIfInBounds j true) ∨ S w' := by
        rcases hc with ⟨k, hk1, hk2⟩ | hl | hs
        · exact .inl ⟨k, hk1, getD_set_true hk2⟩
        · exact .inl ⟨j, hl, by simp [Array.getD, hjr]⟩
        · exact .inr hs
      refine ⟨hc, ih (done.setIfInBounds j true) a' w' (fun k ok hk hki hu hn => ?_) (ready_mono hr (Ne.symm e)) h3.1 hc2 ?_⟩
      · refine hfree k ok hk hki ?_ hn
        by_cases hjk : j = k
        · subst hjk; exact hun
        · rw [getD_set_ne true hjk] at hu; exact hu
      · rw [Array.setIfInBounds_comm _ _ e]
        exact h3.2.2
end
section
variable {P : Program} {l : List Oper} {Q : Exit → Act → World → Prop} {md : Region.Mode} {S : World → Prop} {late : Nat → Bool}
theorem anyB_headL {g : Nat} {fin : Array Bool} (hs : Region.noSelect l.toArray = true) (hQ : ∀ c a w i v, Q (.panic c) (Act.put a i v) w → Q (.panic c) a w) :
    ∀ (is : List Nat) (done : Array Bool) (a : Act) (w : World), Shut md l.toArray done → (∀ i ∈ is, ∀ j, late j = true → farB md l.toArray l.toArray.size j i = true) →
      goHeadL md l.toArray is done = some fin → S w → headK P l.toArray S (fun a' => anyB P md l.toArray Q S late g fin a' w) (pickL l is) a → anyB P md l.toArray Q S late (is.length + g) done a w
  | [], done, a, w, hsh, _, hg, hS, h => by
    simp only [goHeadL, Option.some.injEq] at hg
    subst hg
    rw [List.length_nil, Nat.zero_add]
    exact h
  | i :: is, done, a, w, hsh, hlate, hg, hS, h => by
    simp only [goHeadL] at hg
    split at hg
    · rename_i hc
      simp only [Bool.and_eq_true] at hc
      have hi : i ∈ Region.ready md l.toArray done := by simpa using hc.1
      obtain ⟨o, h0⟩ := ready_op hi
      rw [pickL_cons (by simpa using h0)] at h
      obtain ⟨v, hy, hK⟩ := h
      rw [List.length_cons, show is.length + 1 + g = is.length + g + 1 by omega]
      exact anyB_take h0 (Region.noSelect_spec hs) (fun c a w => hQ c a w _ _) (hlate i List.mem_cons_self) _ _ _ _ hsh (Region.free_spec h0 hc.2) hi hy hS
        (anyB_headL hs hQ is _ _ w (hsh.take hi) (fun j hj => hlate j (List.mem_cons_of_mem _ hj)) hg hS hK)
    · cases hg
theorem anyB_headT {g : Nat} {fin : Array Bool} (hs : Region.noSelect l.toArray = true) (hQ : ∀ c a w i v, Q (.panic c) (Act.put a i v) w → Q (.panic c) a w) :
    ∀ (is : List Nat) (done : Array Bool) (a : Act) (w : World), (∀ i ∈ is, late i = false) →
      goHeadL md l.toArray is done = some fin → (brk late done ∨ S w) → headK P l.toArray (fun _ => True) (fun a' => anyB P md l.toArray Q S late g fin a' w) (pickL l is) a → anyB P md l.toArray Q S late (is.length + g) done a w
  | [], done, a, w, _, hg, hS, h => by
    simp only [goHeadL, Option.some.injEq] at hg
    subst hg
    rw [List.length_nil, Nat.zero_add]
    exact h
  | i :: is, done, a, w, hlate, hg, hS, h => by
    simp only [goHeadL] at hg
    split at hg
    · rename_i hc
      simp only [Bool.and_eq_true] at hc
      have hi : i ∈ Region.ready md l.toArray done := by simpa using hc.1
      obtain ⟨o, h0⟩ := ready_op hi
      rw [pickL_cons (by simpa using h0)] at h
      obtain ⟨v, hy, hK⟩ := h
      rw [List.length_cons, show is.length + 1 + g = is.length + g + 1 by omega]
      exact anyB_takeT h0 (Region.noSelect_spec hs) (fun c a w => hQ c a w _ _) (hlate i List.mem_cons_self) _ _ _ _ (Region.free_spec h0 hc.2) hi hy hS
        (anyB_headT hs hQ is _ _ w (fun j hj => hlate j (List.mem_cons_of_mem _ hj)) hg (hS.imp (fun ⟨k, h1, h2⟩ => ⟨k, h1, getD_set_true h2⟩) id) hK)
    · cases hg
theorem anyB_seq : ∀ (is : List Nat) (done : Array Bool) (a : Act) (w : World), (∀ i ∈ is, late i = true) →
    seqL md l.toArray is done = true → wpList P l.toArray Q (pickL l is) a w → anyB P md l.toArray Q S late is.length done a w
  | [], _, _, _, _, hB, h => ⟨by simpa [seqL] using hB, h⟩
  | i :: is, done, a, w, hL, hB, h => by
    simp only [seqL, Bool.and_eq_true, decide_eq_true_eq] at hB
    obtain ⟨o, h0⟩ := ready_op (md := md) (i := i) (ops := l.toArray) (done := done) (by rw [hB.1]; simp)
    rw [pickL_cons (by simpa using h0)] at h
    refine ⟨fun h1 => (by rw [hB.1] at h1; cases h1), fun j hj => ?_⟩
    rw [hB.1] at hj
    have hij : j = i := by simpa using hj
    subst hij
    have hw : wpOp P l.toArray Q j (wpList P l.toArray Q (pickL l is)) a w := by unfold wpOp; simp only [h0]; exact h
    exact wpOp_mono (fun a' w' h' => ⟨.inr (.inl (hL j List.mem_cons_self)), anyB_seq is _ a' w' (fun x hx => hL x (List.mem_cons_of_mem _ hx)) hB.2 h'⟩) hw
theorem headK_skip {ops : Array Oper} {L : Act → Prop} {o : Oper} {rest : List Oper} {a : Act} (hw : Region.wanted o (yielded ops a.tmps) = false)
    (h : ∀ a', a' = a.put o.dst undef → headK P ops S L rest a') : headK P ops S L (o :: rest) a := ⟨undef, .inr ⟨hw, rfl⟩, h _ rfl⟩
def midF (P : Program) (ops : Array Oper) (Q : Exit → Act → World → Prop) (S : World → Prop) (F : Act → World → Prop) : List Oper → Act → World → Prop
  | [], a, w => F a w
  | o :: mid, a, w => ∀ K : Act → World → Prop, (∀ a2 w2, S w2 → midF P ops Q S F mid a2 w2 → K a2 w2) → if Region.wanted o (yielded ops a.tmps) = true then Oper.wp P o a w K Q else K (a.put o.dst undef) w
def seqF (md : Region.Mode) (ops : Array Oper) : List Nat → Array Bool → Option (Array Bool)
  | [], done => some done
  | i :: is, done => if Region.ready md ops done = [i] then seqF md ops is (done.setIfInBounds i true) else none
theorem anyB_midF {g : Nat} {fin : Array Bool} : ∀ (mid : List Nat) (done : Array Bool) (a : Act) (w : World), S w →
    seqF md l.toArray mid done = some fin → midF P l.toArray Q S (fun a w => S w → anyB P md l.toArray Q S late g fin a w) (pickL l mid) a w → anyB P md l.toArray Q S late (mid.length + g) done a w
  | [], done, a, w, hS, hB, h => by
    simp only [seqF, Option.some.injEq] at hB
    subst hB
    rw [List.length_nil, Nat.zero_add]
    exact h hS
  | i :: mid, done, a, w, hS, hB, h => by
    simp only [seqF] at hB
    split at hB
    · rename_i hr
      obtain ⟨o, h0⟩ := ready_op (md := md) (i := i) (ops := l.toArray) (done := done) (by rw [hr]; simp)
      rw [pickL_cons (by simpa using h0)] at h
      rw [List.length_cons, show mid.length + 1 + g = mid.length + g + 1 by omega]
      refine ⟨fun h1 => (by rw [hr] at h1; cases h1), fun j hj => ?_⟩
      have hj' := hj
      rw [hr] at hj'
      have hij : j = i := by simpa using hj'
      subst hij
      unfold wpOp
      simp only [h0]
      have h1 := h (fun a' w' => (brk late done ∨ late j = true ∨ S w') ∧ anyB P md l.toArray Q S late (mid.length + g) (done.setIfInBounds j true) a' w') (fun a2 w2 hs2 hw2 => ⟨.inr (.inr hs2),
        anyB_midF mid _ a2 w2 hs2 hB hw2⟩)
      split
      · rename_i hw; rw [if_pos hw] at h1; exact .inl h1
      · rename_i hw; rw [if_neg hw] at h1; exact h1
    · cases hB
def fanB (ops : Array Oper) (hd mid hd2 tl : List Nat) : Bool :=
  Region.noSelect ops && decide (hd.length + (mid.length + (hd2.length + tl.length)) = ops.size) && (tl.all fun j => hd.all fun i => farB .any ops ops.size j i) && (hd2.all fun j => !tl.contains j) &&
  match goHeadL .any ops hd (Array.replicate ops.size false) with
    | some fin => match seqF .any ops mid fin with
      | some fin2 => match goHeadL .any ops hd2 fin2 with
        | some fin3 => seqL .any ops tl fin3
        | none => false
      | none => false
    | none => false
theorem wp_region_fan {id : Nat} {a : Act} {w : World} (hd mid hd2 tl : List Nat) (S : World → Prop) (hm : P.follows .mixedOrders = true) (hB : fanB l.toArray hd mid hd2 tl = true) (hS : S w.drew)
    (h : headK P l.toArray S (fun a' => midF P l.toArray (NoPanic Q) S (fun a w => headK P l.toArray (fun _ => True) (fun a' => wpList P l.toArray (NoPanic Q) (pickL l tl) a' w) (pickL l hd2) a) (pickL l mid) a' w.drew) (pickL l hd) a) : (Code.region id l.toArray true).wp P Q a w := by
  refine wp_region_noPanic (wp_region_any hm ?_)
  simp only [fanB, Bool.and_eq_true, decide_eq_true_eq] at hB
  obtain ⟨⟨⟨⟨hs, hn⟩, hlB⟩, hdis⟩, hg⟩ := hB
  cases hgo : goHeadL .any l.toArray hd (Array.replicate l.toArray.size false) with
  | none => rw [hgo] at hg; cases hg
  | some fin =>
    rw [hgo] at hg
    simp only at hg
    cases hsq : seqF .any l.toArray mid fin with
    | none => rw [hsq] at hg; cases hg
    | some fin2 =>
      rw [hsq] at hg
      simp only at hg
      cases hgo2 : goHeadL .any l.toArray hd2 fin2 with
      | none => rw [hgo2] at hg; cases hg
      | some fin3 =>
        rw [hgo2] at hg
        simp only at hg
        refine anyB_any (S := S) (late := fun j => tl.contains j) _ _ _ _ ?_
        have last : ∀ a w, S w → headK P l.toArray (fun _ => True) (fun a' => wpList P l.toArray (NoPanic Q) (pickL l tl) a' w) (pickL l hd2) a →
            anyB P .any l.toArray (NoPanic Q) S (fun j => tl.contains j) (hd2.length + tl.length) fin2 a w := fun a w hS hh => by
          refine anyB_headT (g := tl.length) (fin := fin3) hs (fun c a w i v hq => by cases hq) hd2 fin2 a w (fun i hi => by have := List.all_eq_true.1 hdis i hi; simpa using this) hgo2 (.inr hS) ?_
          have key : ∀ (ll : List Oper) (a0 : Act), headK P l.toArray (fun _ => True) (fun a' => wpList P l.toArray (NoPanic Q) (pickL l tl) a' w) ll a0 →
              headK P l.toArray (fun _ => True) (fun a' => anyB P .any l.toArray (NoPanic Q) S (fun j => tl.contains j) tl.length fin3 a' w) ll a0 := by
            intro ll
            induction ll with
            | nil => exact fun a0 h0 => anyB_seq tl fin3 a0 _ (fun i hi => by simpa using hi) hg h0
            | cons o ll ih =>
              intro a0 h0
              obtain ⟨v, hy, hK⟩ := h0
              exact ⟨v, hy, ih _ hK⟩
          exact key _ _ hh
        have keyM : ∀ (ll : List Oper) (a0 : Act) (w0 : World), midF P l.toArray (NoPanic Q) S (fun a w => headK P l.toArray (fun _ => True) (fun a' => wpList P l.toArray (NoPanic Q) (pickL l tl) a' w) (pickL l hd2) a) ll a0 w0 →
            midF P l.toArray (NoPanic Q) S (fun a w => S w → anyB P .any l.toArray (NoPanic Q) S (fun j => tl.contains j) (hd2.length + tl.length) fin2 a w) ll a0 w0 := by
          intro ll
          induction ll with
          | nil => exact fun a0 w0 h0 hS => last a0 w0 hS h0
          | cons o ll ih =>
            intro a0 w0 h0 K hK
            exact h0 K (fun a2 w2 hs2 hm2 => hK a2 w2 hs2 (ih a2 w2 hm2))
        have keyH : ∀ (ll : List Oper) (a0 : Act), headK P l.toArray S (fun a' => midF P l.toArray (NoPanic Q) S (fun a w => headK P l.toArray (fun _ => True) (fun a' => wpList P l.toArray (NoPanic Q) (pickL l tl) a' w) (pickL l hd2) a) (pickL l mid) a' w.drew) ll a0 →
            headK P l.toArray S (fun a' => anyB P .any l.toArray (NoPanic Q) S (fun j => tl.contains j) (mid.length + (hd2.length + tl.length)) fin a' w.drew) ll a0 := by
          intro ll
          induction ll with
          | nil => exact fun a0 h0 => anyB_midF mid fin a0 _ hS hsq (keyM _ _ _ h0)
          | cons o ll ih =>
            intro a0 h0
            obtain ⟨v, hy, hK⟩ := h0
            exact ⟨v, hy, ih _ hK⟩
        have h1 := anyB_headL (Q := NoPanic Q) (late := fun j => tl.contains j) (g := mid.length + (hd2.length + tl.length)) (fin := fin) hs (fun c a w i v hq => by cases hq) hd (Array.replicate l.toArray.size false) a w.drew Shut.new (fun i hi j hj => by
          have hjt : j ∈ tl := by simpa using hj
          exact List.all_eq_true.1 (List.all_eq_true.1 hlB j hjt) i hi) hgo hS (keyH _ _ h)
        rw [hn] at h1
        exact h1
end
end Go.Proofs.YtcamcnahkdiefaaGreat

/- Chapter 24: a pass of duals (model.pass). -/
namespace Go.Proofs.YtcamcnahkdiefaaGreat
set_option linter.unusedVariables false
set_option linter.unusedSimpArgs false
open Go.RowKit
noncomputable def ChD.dstep (c : ChD) (t : Nat) (now fx : List DuD) : List DuD := (dualR c.p.regs c.p.l (now ++ fx ++ [(⟨UInt64.ofNat t, 0⟩ : DuD)])).take now.length
noncomputable def ChD.diter (c : ChD) (now fx : List DuD) : Nat → List DuD
  | 0 => now
  | t + 1 => c.dstep t (c.diter now fx t) fx
noncomputable def ChD.dloss (c : ChD) (now fx : List DuD) : DuD := (dualR c.q.regs c.q.l (now ++ fx)).getD 0 ⟨0, 0⟩
noncomputable def ChD.dpass (c : ChD) (now fx : List DuD) (l : Nat) : DuD := c.dloss (c.diter now fx l) fx
theorem ChD.drun {c : ChD} (hc : c.Ok) {now fx : List DuD} (hn : (now.length : Int) = c.x) (hf : fx.length = c.th.length) (t : Nat) :
    dualE c.p.regs c.p.l (now ++ fx ++ [(⟨UInt64.ofNat t, 0⟩ : DuD)]).length = 0 ∧ (dualR c.p.regs c.p.l (now ++ fx ++ [(⟨UInt64.ofNat t, 0⟩ : DuD)])).length = c.p.regs.toNat := by
  obtain ⟨f, e, g⟩ := hc.hp
  have hr := hc.r1
  have hl : ((now ++ fx ++ [(⟨UInt64.ofNat t, 0⟩ : DuD)]).length : Int) ≤ c.p.regs := by simp; omega
  rw [e]
  refine ⟨dualE_of g hl, ?_⟩
  rw [dualR_good g hl, runD_length]
  unfold startD
  simp
  simp at hl
  omega
theorem ChD.dlast {c : ChD} (hc : c.Ok) {now fx : List DuD} (hn : (now.length : Int) = c.x) (hf : fx.length = c.th.length) :
    dualE c.q.regs c.q.l (now ++ fx).length = 0 ∧ (dualR c.q.regs c.q.l (now ++ fx)).length = c.q.regs.toNat := by
  obtain ⟨f, e, g⟩ := hc.hq
  have hr := hc.r2
  have hl : ((now ++ fx).length : Int) ≤ c.q.regs := by simp; omega
  rw [e]
  refine ⟨dualE_of g hl, ?_⟩
  rw [dualR_good g hl, runD_length]
  unfold startD
  simp
  simp at hl
  omega
theorem ChD.diter_len {c : ChD} (hc : c.Ok) {now fx : List DuD} (hn : (now.length : Int) = c.x) (hf : fx.length = c.th.length) : ∀ t, ((c.diter now fx t).length : Int) = c.x
  | 0 => hn
  | t + 1 => by
    have ih := ChD.diter_len hc hn hf t
    have h1 := (ChD.drun hc ih hf t).2
    have hr := hc.r1
    unfold ChD.diter ChD.dstep
    rw [List.length_take, h1]
    omega
theorem At.takeN {α : Type} [Flat α] {w : World} {a : Option Addr} {l : List α} (h : At w a l) (k : Nat) : At w a (l.take k) := fun i x hx => h i x (by
  rw [List.getElem?_take] at hx
  split at hx
  · exact hx
  · cases hx)
theorem wrap_u64 {t : Nat} (h : t < 65536) : IntKind.u64.wrap (t : Int) = (t : Int) ∧ ((UInt64.ofNat t).toNat : Int) = (t : Int) := by
  constructor
  · simp only [IntKind.wrap, IntKind.bits, IntKind.signed]
    simp
    omega
  · rw [UInt64.toNat_ofNat', Nat.mod_eq_of_lt (by omega)]
set_option maxRecDepth 100000 in
set_option maxHeartbeats 12800000 in
theorem Pass_calls (c : ChD) (hc : c.Ok) (xs : List UInt64) (xn tn ln : Nat) (hxn : xn = xs.length) (hcx : c.x = (xn : Int)) (htn : tn = c.th.length) (hln : ln < 65536) (g3 g4 g5 : Nat) (xa : Option Addr) (xc : Nat) (ta : Option Addr) (tc : Nat) (i : Int) (w : World) (h : NumAt w g3 g4 g5 xa xc ta tc xs c.th i)
    (hp : At w c.p.a c.p.l) (hpl : c.p.l.length ≤ 1000000) (hq : At w c.q.a c.q.l) (hql : c.q.l.length ≤ 1000000) (V D : UInt64) (hV : c.dpass (numS (xs ++ c.th) i 0 xn) (numS (xs ++ c.th) i xn tn) ln = ⟨V, D⟩) :
    Calls Tryz.prog 53 #[.agg #[.int .i64 c.p.regs, .slice c.p.a c.p.l.length c.p.c], .agg #[.int .i64 c.q.regs, .slice c.q.a c.q.l.length c.q.c], .int .i64 (xn : Int), .int .i64 (tn : Int), .int .i64 (ln : Int), numF g3 g4 g5] w fun e w' => e = .returned (.agg #[.int .u64 (V.toNat : Int), .int .u64 (D.toNat : Int)]) ∧ Below w.heap.size w w' := by
  have hx1 := hc.x1
  have hx2 := hc.x2
  have ht2 := hc.t2
  have hr1 := hc.r1
  rw [hcx] at hx1 hx2 hr1
  rw [← htn] at ht2 hr1
  obtain ⟨hX1, hX2, hX3, hX4, hb0, hz0⟩ := four_boxes w 24 24 113 111 #[.int .i64 c.p.regs, .slice c.p.a c.p.l.length c.p.c] #[.int .i64 c.q.regs, .slice c.q.a c.q.l.length c.q.c] #[numF g3 g4 g5] #[.int .u64 0, .int .u64 0]
  obtain ⟨FX, hFX⟩ : ∃ l, numS (xs ++ c.th) i xn tn = l := ⟨_, rfl⟩
  obtain ⟨N0, hN0⟩ : ∃ l, numS (xs ++ c.th) i 0 xn = l := ⟨_, rfl⟩
  have hFl : FX.length = tn := by rw [← hFX, numS_len]
  have hNl : N0.length = xn := by rw [← hN0, numS_len]
  have hFc : FX.length = c.th.length := by rw [hFl, htn]
  have hN := h.belowN hb0
  have HS0 := hide (State_calls 0 xn (w.heap.size + 1 + 1) g3 g4 g5 xa xc ta tc xs c.th xn tn hxn htn i _ hN hX3 (by omega) (by omega))
  have HS1 := hide (fun (W : World) (hW : Below w.heap.size w W) (hB : Blk W (w.heap.size + 1 + 1) 113 #[numF g3 g4 g5]) => State_calls xn tn (w.heap.size + 1 + 1) g3 g4 g5 xa xc ta tc xs c.th xn tn hxn htn i W (h.belowN hW) hB (by omega) (by omega))
  rw [hN0, hFX] at hV
  rw [hN0, show ((0 : Nat) : Int) = 0 from rfl] at HS0
  rw [hFX] at HS1
  have HV := hide hV
  have HC := hide hc
  have HCX := hide hcx
  have HFC := hide hFc
  have HFL := hide hFl.symm
  have HNL := hide hNl
  have hpp := hp.belowN hb0
  clear hV hFX hN0 hxn htn hN hc hcx hFc hFl hNl
  go_enter Tryz.func53, Tryz.ntmps53
  go_wp2_with (first
    | (go_at_call 104; first
        | (have hgd := hown1; go_must ((with_reducible refine (HS1.out _ hB1 (hX3.belowN hb1)).mono ?_); rintro vv w2 ⟨a2, c2, rfl, hown2, hb2⟩))
        | go_must ((with_reducible refine (HS0.out).mono ?_); rintro vv w1 ⟨a1, c1, rfl, hown1, hb1⟩; have hB1 := hb0.trans (hb1.mono hb0.size))))
  have hB2 := hB1.trans (hb2.mono hB1.size)
  have hX12 := (hX1.belowN hb1).belowN hb2
  have hX22 := (hX2.belowN hb1).belowN hb2
  have hX42 := (hX4.belowN hb1).belowN hb2
  have hz2 := hB2.size
  have hgs : w.heap.size + 1 + 1 + 1 + 1 ≤ w1.heap.size := by have := hb1.size; omega
  have hg12 := hb2.size
  have hf0 : FX ≠ [] → a2.map (·.block) ≠ a1.map (·.block) := fun hne e => by
    obtain ⟨g, e1, e2, _⟩ := hown2.some_ hne
    have h3 := (hown1.blk g (by rw [← e, e1]; rfl)).2
    omega
  have hblk0 : ∀ q, a1.map (·.block) = some q → w.heap.size + 1 + 1 + 1 < q := fun q hq => by have := (hown1.blk q hq).1; omega
  go_loopw [14, 30] (fun nv iv wr => ∃ (t : Nat) (a' : Option Addr) (c' : Nat), nv = .slice a' xn c' ∧ iv = .int .i64 t ∧ t ≤ ln ∧ Gr wr (w.heap.size + 1 + 1 + 1 + 1) 111 a' c' (c.diter N0 FX t) ∧ At wr a2 FX ∧ (FX ≠ [] → a2.map (·.block) ≠ a'.map (·.block)) ∧ (∀ q, a'.map (·.block) = some q → w.heap.size + 1 + 1 + 1 < q) ∧ Below (w.heap.size + 1 + 1 + 1 + 1) w2 wr) (fun _ iv _ => ln - (intOf iv).toNat)
  case atStart => exact ⟨0, a1, c1, rfl, rfl, by omega, .inl ((hown1.belowN hb2).mono (by omega)), hown2.at_, hf0, hblk0, Below.refl _ _⟩
  case round =>
    obtain ⟨t, a', c', rfl, rfl, ht, hG, hF, hfar, hblk, hb3⟩ := hrel
    have hz3 := hb3.size
    have hBw := hB2.trans (hb3.mono (by omega))
    have hX13 := hX12.below hb3 (by omega)
    have hX23 := hX22.below hb3 (by omega)
    have hX43 := hX42.below hb3 (by omega)
    by_cases hlt : t < ln
    · obtain ⟨N, hN⟩ : ∃ N, c.diter N0 FX t = N := ⟨_, rfl⟩
      have hNl : N.length = xn := by
        have := ChD.diter_len HC.out (now := N0) (fx := FX) (by rw [HNL.out, HCX.out]) HFC.out t
        rw [hN, HCX.out] at this
        omega
      obtain ⟨dE, dL⟩ := ChD.drun HC.out (now := N) (fx := FX) (by rw [hNl, HCX.out]) HFC.out t
      have hst : c.diter N0 FX (t + 1) = (dualR c.p.regs c.p.l (N ++ FX ++ [(⟨UInt64.ofNat t, 0⟩ : DuD)])).take xn := by
        show c.dstep t (c.diter N0 FX t) FX = _
        rw [hN]
        unfold ChD.dstep
        rw [hNl]
      have hlen : xn + tn + 1 = (N ++ FX ++ [(⟨UInt64.ofNat t, 0⟩ : DuD)]).length := by simp [hNl, ← HFL.out]; omega
      rw [← hlen] at dE
      rw [hN] at hG
      obtain ⟨w16, w17⟩ := wrap_u64 (t := t) (by omega)
      obtain ⟨tv, htv⟩ : ∃ tv, UInt64.ofNat t = tv := ⟨_, rfl⟩
      rw [htv] at dL hst hlen w17
      obtain ⟨R, hR⟩ : ∃ R, dualR c.p.regs c.p.l (N ++ FX ++ [(⟨tv, 0⟩ : DuD)]) = R := ⟨_, rfl⟩
      rw [hR] at dL hst
      have HRUN := hide (fun (W : World) (ra : Option Addr) (rc : Nat) (k1 : At W c.p.a c.p.l) (k2 : At W ra (N ++ FX ++ [(⟨tv, 0⟩ : DuD)])) => JRun_calls c.p.regs c.p.a c.p.c c.p.l.length c.p.l rfl ra (xn + tn + 1) rc _ hlen R 0 hR dE W k1 hpl k2)
      have hwv : IntKind.u64.wrap (t : Int) = (tv.toNat : Int) := by rw [w16, w17]
      have HCO := hide (fun W => DConst_calls tv W)
      have hRl : xn ≤ R.length := by rw [dL]; omega
      have HST := hide hst
      have HNL2 := hide hNl.symm
      obtain ⟨p0, p1, p2, p3⟩ := hX13.c2
      obtain ⟨S', hS'⟩ : ∃ S' : World → Prop, S' = fun w' => w'.cell? ⟨w.heap.size, 0, none⟩ = some (.int .i64 c.p.regs) ∧ w'.cell? ⟨w.heap.size, 1, none⟩ = some (.slice c.p.a c.p.l.length c.p.c) := ⟨_, rfl⟩
      have HSE : Hid (∀ w', S' w' → w'.cell? ⟨w.heap.size, 0, none⟩ = some (.int .i64 c.p.regs) ∧ w'.cell? ⟨w.heap.size, 1, none⟩ = some (.slice c.p.a c.p.l.length c.p.c)) := hide (fun w' h => by rw [hS'] at h; exact h)
      have HSI : Hid (∀ w4, Below (w.heap.size + 1 + 1 + 1 + 1) wr w4 → S' w4) := hide (fun w4 h4 => by
        rw [hS']
        obtain ⟨y0, y1, _⟩ := (hX13.below h4 (by omega)).c2
        exact ⟨y0, y1⟩)
      have hBz : w.heap.size + 1 + 1 + 1 + 1 ≤ wr.heap.size := by omega
      have hdw : Below (w.heap.size + 1 + 1 + 1 + 1) wr wr.drew := Below.drew (Below.refl _ _)
      have hdf : Below wr.heap.size wr wr.drew := Below.drew (Below.refl _ _)
      have hGd := hG.belowN hdf
      have hFd := hF.belowN hdf
      clear hS' hN hNl dE dL hst hlen hR w16 w17 htv hG hF
      obtain ⟨wo, rfl⟩ : ∃ wo : World, wo = wr := ⟨_, rfl⟩
      go_wp2
      refine wp_region_fan [0, 1, 2, 4, 5] [3, 6, 7, 8, 9, 10] [11, 12] [13, 14] S' (by kernel_rfl) (by kernel_rfl) (HSI.out _ hdw) ?_
      simp only [pickL, List.filterMap_cons, List.filterMap_nil, List.getElem?_cons_succ, List.getElem?_cons_zero]
      iterate 5
        apply headK_step (by rfl)
        · intro w' hw'
          obtain ⟨s0, s1⟩ := HSE.out w' hw'
          go_simp
          rfl
        intro a' ha'
        simp only [Act.put, List.setIfInBounds_toArray, List.set_cons_succ, List.set_cons_zero] at ha'
        subst ha'
      refine headK_nil ?_
      rw [midF]
      intro K0 hK0
      have HK0 := hide hK0
      clear hK0
      refine step_gr tyD hGd hFd rfl rfl rfl rfl HNL2.out HFL.out hBz (by omega) (by omega) ?_
      intro a5 c5 w5 hG5 hb5 hg5 hc5
      have hB5 := hdw.trans hb5
      refine HK0.out _ _ (HSI.out _ hB5) ?_
      clear HK0
      rw [midF]
      intro K0 hK0
      have HK0 := hide hK0
      clear hK0
      go_simp
      go_at_call 105
      refine (HCO.out _).mono ?_
      rintro e w6 ⟨rfl, hb6⟩
      have hz5 := hB5.size
      have hB6 := hB5.trans (hb6.mono (Nat.le_trans hBz hz5))
      refine HK0.out _ _ (HSI.out _ hB6) ?_
      clear HK0
      rw [midF]
      intro K0 hK0
      have HK0 := hide hK0
      clear hK0
      go_simp
      have hz6 := hB6.size
      have hbx := below_box w6 (.cells #[.int .u64 (tv.toNat : Int), .int .u64 0] 111)
      have hB7 := hB6.trans (hbx.mono (Nat.le_trans hBz hz6))
      refine HK0.out _ _ (HSI.out _ hB7) ?_
      clear HK0
      rw [midF]
      intro K0 hK0
      have HK0 := hide hK0
      clear hK0
      have hG7 := (hG5.belowN hb6).belowN hbx
      have hz7 := hB7.size
      have HN5 : Hid (xn + tn = (N ++ FX).length) := hide (by rw [List.length_append, ← HNL2.out, ← HFL.out])
      refine step_gr tyD hG7 (l2 := [(⟨tv, 0⟩ : DuD)]) (At.ofBlk (Blk.new w6 _ #[.int .u64 (tv.toNat : Int), .int .u64 0]) _ rfl) rfl rfl rfl rfl HN5.out rfl (Nat.le_trans hBz hz7) (by omega) (by decide) ?_
      intro a8 c8 w8 hG8 hb8 hg8 hc8
      have hB8 := hB7.trans hb8
      refine HK0.out _ _ (HSI.out _ hB8) ?_
      clear HK0
      rw [midF]
      intro K0 hK0
      have HK0 := hide hK0
      clear hK0
      go_simp
      go_at_call 69
      refine (HRUN.out w8 a8 c8 (hp.belowN (hBw.trans (hB8.mono (by omega)))) hG8.at_).mono ?_
      rintro e w9 ⟨a9, c9, rfl, hown9, hb9⟩
      have hz8 := hB8.size
      have hB9 := hB8.trans (hb9.mono (Nat.le_trans hBz hz8))
      refine HK0.out _ _ (HSI.out _ hB9) ?_
      clear HK0
      rw [midF]
      intro K0 hK0
      have HK0 := hide hK0
      clear hK0
      go_simp
      refine HK0.out _ _ (HSI.out _ hB9) ?_
      clear HK0 HSI HSE
      rw [midF]
      iterate 2
        apply headK_step (by rfl)
        · intro w' _
          go_simp
          rfl
        intro a' ha'
        simp only [Act.put, List.setIfInBounds_toArray, List.set_cons_succ, List.set_cons_zero] at ha'
        subst ha'
      refine headK_nil ?_
      have hRne : R ≠ [] := by rintro rfl; simp at hRl; omega
      obtain ⟨g9, e9, hg9, hg9'⟩ := hown9.some_ hRne
      subst e9
      have hcap := hown9.cap
      have k1 : xn ≤ c9 := by omega
      have k2 : R.length ≤ c9 := hcap.1
      have k3 : c9 ≤ 9223372036854775807 := Nat.le_trans hcap.2 (by decide)
      go_wp2
      refine NoPanic.normal ?_
      have hF5 := hFd.grown hg5 (fun hne => .inl (hfar hne))
      have hF7 := (hF5.belowN hb6).belowN hbx
      have hfar5 : FX ≠ [] → a2.map (·.block) ≠ a5.map (·.block) := fun hne e => by
        obtain ⟨b, off, e2, hlt2⟩ := hFd.lt hne
        rcases hc5 with e3 | ⟨q, e3, hq⟩
        · exact hfar hne (e.trans e3)
        · rw [e3, e2] at e
          injection e with e
          simp only at e
          omega
      have hF8 := hF7.grown hg8 (fun hne => .inl (hfar5 hne))
      have hF9 := hF8.belowN hb9
      have hfar9 : FX ≠ [] → a2.map (·.block) ≠ some g9 := fun hne e => by
        obtain ⟨b, off, e2, hlt2⟩ := hF8.lt hne
        rw [e2] at e
        injection e with e
        simp only at e
        omega
      have hat9 := hown9.at_.takeN xn
      have hB29 := hb3.trans hB9
      clear hF5 hF7 hF8 hfar5 hg5 hg8 hc5 hc8 hFd hGd hG5 hG7 hG8
      go_wp2
      go_roundw
      case rel => exact ⟨t + 1, some ⟨g9, 0, none⟩, xn, by go_num, by go_num, by omega, by rw [HST.out]; exact .inr ⟨hat9, by rw [List.length_take]; omega⟩, hF9, hfar9, fun q hq => by injection hq with hq; simp only at hq; omega, hB29⟩
      case measure => simp [intOf] <;> omega
    · have htl : t = ln := by omega
      subst htl
      obtain ⟨N, hN⟩ : ∃ N, c.diter N0 FX t = N := ⟨_, rfl⟩
      have hNl : N.length = xn := by
        have := ChD.diter_len HC.out (now := N0) (fx := FX) (by rw [HNL.out, HCX.out]) HFC.out t
        rw [hN, HCX.out] at this
        omega
      obtain ⟨dE, dL⟩ := ChD.dlast HC.out (now := N) (fx := FX) (by rw [hNl, HCX.out]) HFC.out
      have hlen : xn + tn = (N ++ FX).length := by simp [hNl, ← HFL.out]
      rw [← hlen] at dE
      rw [hN] at hG
      have hVV := HV.out
      unfold ChD.dpass ChD.dloss at hVV
      rw [hN] at hVV
      obtain ⟨R, hR⟩ : ∃ R, dualR c.q.regs c.q.l (N ++ FX) = R := ⟨_, rfl⟩
      rw [hR] at dL hVV
      have HRUN := hide (fun (W : World) (ra : Option Addr) (rc : Nat) (k1 : At W c.q.a c.q.l) (k2 : At W ra (N ++ FX)) => JRun_calls c.q.regs c.q.a c.q.c c.q.l.length c.q.l rfl ra (xn + tn) rc _ hlen R 0 hR dE W k1 hql k2)
      have hr2 := HC.out.r2
      rw [HCX.out] at hr2
      have hR1 : 1 ≤ R.length := by rw [dL]; omega
      have HR0 : Hid (R[0]? = some ⟨V, D⟩) := hide (by
        rw [List.getD_eq_getElem?_getD, List.getElem?_eq_getElem hR1] at hVV
        rw [List.getElem?_eq_getElem hR1]
        exact congrArg some hVV)
      have HNL2 := hide hNl.symm
      obtain ⟨p0, p1, p2, p3⟩ := hX23.c2
      obtain ⟨S', hS'⟩ : ∃ S' : World → Prop, S' = fun w' => w'.cell? ⟨w.heap.size + 1, 0, none⟩ = some (.int .i64 c.q.regs) ∧ w'.cell? ⟨w.heap.size + 1, 1, none⟩ = some (.slice c.q.a c.q.l.length c.q.c) := ⟨_, rfl⟩
      have HSE : Hid (∀ w', S' w' → w'.cell? ⟨w.heap.size + 1, 0, none⟩ = some (.int .i64 c.q.regs) ∧ w'.cell? ⟨w.heap.size + 1, 1, none⟩ = some (.slice c.q.a c.q.l.length c.q.c)) := hide (fun w' h => by rw [hS'] at h; exact h)
      have HSI : Hid (∀ w4, Below (w.heap.size + 1 + 1 + 1 + 1) wr w4 → S' w4) := hide (fun w4 h4 => by
        rw [hS']
        obtain ⟨y0, y1, _⟩ := (hX23.below h4 (by omega)).c2
        exact ⟨y0, y1⟩)
      have hBz : w.heap.size + 1 + 1 + 1 + 1 ≤ wr.heap.size := by omega
      have hdw : Below (w.heap.size + 1 + 1 + 1 + 1) wr wr.drew := Below.drew (Below.refl _ _)
      have hdf : Below wr.heap.size wr wr.drew := Below.drew (Below.refl _ _)
      have hGd := hG.belowN hdf
      have hFd := hF.belowN hdf
      clear hS' hN hNl dE dL hlen hR hG hF hVV
      obtain ⟨wo, rfl⟩ : ∃ wo : World, wo = wr := ⟨_, rfl⟩
      go_wp2
      refine wp_region_fan [0, 1, 2] [3, 4, 5] [6, 7] [8, 9] S' (by kernel_rfl) (by kernel_rfl) (HSI.out _ hdw) ?_
      simp only [pickL, List.filterMap_cons, List.filterMap_nil, List.getElem?_cons_succ, List.getElem?_cons_zero]
      iterate 3
        apply headK_step (by rfl)
        · intro w' hw'
          obtain ⟨s0, s1⟩ := HSE.out w' hw'
          go_simp
          rfl
        intro a' ha'
        simp only [Act.put, List.setIfInBounds_toArray, List.set_cons_succ, List.set_cons_zero] at ha'
        subst ha'
      refine headK_nil ?_
      rw [midF]
      intro K0 hK0
      have HK0 := hide hK0
      clear hK0
      refine step_gr tyD hGd hFd rfl rfl rfl rfl HNL2.out HFL.out hBz (by omega) (by omega) ?_
      intro a5 c5 w5 hG5 hb5 hg5 hc5
      have hB5 := hdw.trans hb5
      have hz5 := hB5.size
      refine HK0.out _ _ (HSI.out _ hB5) ?_
      clear HK0
      rw [midF]
      intro K0 hK0
      have HK0 := hide hK0
      clear hK0
      go_simp
      go_at_call 69
      refine (HRUN.out w5 a5 c5 (hq.belowN (hBw.trans (hB5.mono (by omega)))) hG5.at_).mono ?_
      rintro e w9 ⟨a9, c9, rfl, hown9, hb9⟩
      have hB9 := hB5.trans (hb9.mono (Nat.le_trans hBz hz5))
      refine HK0.out _ _ (HSI.out _ hB9) ?_
      clear HK0
      rw [midF]
      intro K0 hK0
      have HK0 := hide hK0
      clear hK0
      go_simp
      refine HK0.out _ _ (HSI.out _ hB9) ?_
      clear HK0 HSI HSE
      rw [midF]
      iterate 2
        apply headK_step (by rfl)
        · intro w' _
          go_simp
          rfl
        intro a' ha'
        simp only [Act.put, List.setIfInBounds_toArray, List.set_cons_succ, List.set_cons_zero] at ha'
        subst ha'
      refine headK_nil ?_
      have hRne : R ≠ [] := by rintro rfl; simp at hR1
      obtain ⟨g9, e9, hg9, hg9'⟩ := hown9.some_ hRne
      subst e9
      have x0 := hown9.cellAt HR0.out (f := 0) rfl
      have x1 := hown9.cellAt HR0.out (f := 1) rfl
      simp only [Nat.zero_mul, Nat.zero_add] at x0 x1
      have h00 : 0 < R.length := hR1
      have hX49 := hX43.below hB9 (by omega)
      obtain ⟨m0, m1, m2, m3⟩ := hX49.c2
      have hF := (hX49.set_ 0 (.int .u64 (V.toNat : Int))).set_ 1 (.int .u64 (D.toNat : Int))
      have hBe := hBw.trans (hB9.mono (by omega))
      go_wp2
      refine NoPanic.normal ?_
      go_wp2
      refine bodyPost_ret (results_row_D rfl _ _ (w.heap.size + 1 + 1 + 1) _ #[.int .u64 (V.toNat : Int), .int .u64 (D.toNat : Int)] (0, 0) _ rfl hF Tryz.underlying111 rfl (by kernel_rfl)) rfl ⟨rfl, ?_⟩
      exact (hBe.setCell (p := ⟨w.heap.size + 1 + 1 + 1, 0, none⟩) (by show _ ≤ w.heap.size + 1 + 1 + 1; omega) _).setCell (p := ⟨w.heap.size + 1 + 1 + 1, 1, none⟩) (by show _ ≤ w.heap.size + 1 + 1 + 1; omega) _
end Go.Proofs.YtcamcnahkdiefaaGreat

/- Chapter 24: model.Along. -/
namespace Go.Proofs.YtcamcnahkdiefaaGreat
set_option linter.unusedVariables false
set_option linter.unusedSimpArgs false
open Go.RowKit
def ChD.alE (c : ChD) (n : Nat) (l i : Int) : Int := if c.mayM l ≠ 0 then c.mayM l else if i < 0 ∨ ((n + c.th.length : Nat) : Int) ≤ i then 2 else 0
noncomputable def ChD.passAt (c : ChD) (xs : List UInt64) (l : Nat) (i : Int) : DuD := c.dpass (numS (xs ++ c.th) i 0 xs.length) (numS (xs ++ c.th) i xs.length c.th.length) l
noncomputable def ChD.alD (c : ChD) (xs : List UInt64) (l i : Int) : DuD := if c.alE xs.length l i = 0 then c.passAt xs l.toNat i else ⟨0, 0⟩
set_option maxRecDepth 100000 in
set_option maxHeartbeats 1600000 in
theorem Numbers_calls (xa : Option Addr) (xc : Nat) (ta : Option Addr) (tc : Nat) (xs th : List UInt64) (xn tn : Nat) (hxn : xn = xs.length) (htn : tn = th.length) (i : Int) (w : World) (hx : At w xa xs) (ht : At w ta th) :
    Calls Tryz.prog 54 #[.slice xa xn xc, .slice ta tn tc, .int .i64 i] w fun e w' => ∃ g3 g4 g5, e = .returned (numF g3 g4 g5) ∧ NumAt w' g3 g4 g5 xa xc ta tc xs th i ∧ Below w.heap.size w w' := by
  obtain ⟨h1, h2, h3, hb, hz⟩ := three_boxes w 46 46 3 #[.slice xa xn xc] #[.slice ta tn tc] #[.int .i64 i]
  have HN := hide (show NumAt (((w.alloc (.cells #[.slice xa xn xc] 46)).alloc (.cells #[.slice ta tn tc] 46)).alloc (.cells #[.int .i64 i] 3)) w.heap.size (w.heap.size + 1) (w.heap.size + 1 + 1) xa xc ta tc xs th i from ⟨by rw [← hxn]; exact h1, by rw [← htn]; exact h2, h3, hx.belowN hb, ht.belowN hb⟩)
  clear hxn htn
  go_enter Tryz.func54, Tryz.ntmps54
  go_wp2
  go_ret
  exact ⟨_, _, _, rfl, HN.out, hb⟩
set_option maxRecDepth 100000 in
set_option maxHeartbeats 12800000 in
theorem MAlong_good (c : ChD) (hc : c.Ok) (xs : List UInt64) (xn tn ln : Nat) (hxn : xn = xs.length) (hcx : c.x = (xn : Int)) (htn : tn = c.th.length) (hln : ln < 65536) (xa : Option Addr) (xc : Nat) (ta : Option Addr) (tc : Nat) (k : Nat) (hk : k < xn + tn) (w : World) (hx : At w xa xs) (ht : At w ta c.th)
    (hp : At w c.p.a c.p.l) (hpl : c.p.l.length ≤ 1000000) (hq : At w c.q.a c.q.l) (hql : c.q.l.length ≤ 1000000) (hm : c.mayM (ln : Int) = 0) (V D : UInt64) (hV : c.passAt xs ln (k : Int) = ⟨V, D⟩) :
    Calls Tryz.prog 23 #[.agg #[.int .i64 c.p.regs, .slice c.p.a c.p.l.length c.p.c], .agg #[.int .i64 c.q.regs, .slice c.q.a c.q.l.length c.q.c], .slice xa xn xc, .slice ta tn tc, .int .i64 (ln : Int), .int .i64 (k : Int)] w fun e w' => e = .returned (.tuple #[.int .u64 (V.toNat : Int), .int .u64 (D.toNat : Int), .int .i64 0]) ∧ Below w.heap.size w w' := by
  have hx1 := hc.x1
  have hx2 := hc.x2
  have ht2 := hc.t2
  rw [hcx] at hx1 hx2
  rw [← htn] at ht2
  obtain ⟨hX, hY, hb0, hz0⟩ := two_boxes w 24 24 #[.int .i64 c.p.regs, .slice c.p.a c.p.l.length c.p.c] #[.int .i64 c.q.regs, .slice c.q.a c.q.l.length c.q.c]
  obtain ⟨p0, p1, p2, p3⟩ := hX.c2
  obtain ⟨p4, p5, p6, p7⟩ := hY.c2
  have HM := hide (May24M_calls c ta tc (ln : Int) _ (hp.belowN hb0) hpl (hq.belowN hb0) hql (ht.belowN hb0) (by rw [hcx]; omega) (by omega) 0 hm)
  rw [← htn, hcx] at HM
  unfold ChD.passAt at hV
  rw [← hxn, ← htn] at hV
  have HNU := hide (fun (W : World) (hW : Below w.heap.size w W) => Numbers_calls xa xc ta tc xs c.th xn tn hxn htn (k : Int) W (hx.belowN hW) (ht.belowN hW))
  have HPA := hide (fun (W : World) (hW : Below w.heap.size w W) (g3 g4 g5 : Nat) (hN : NumAt W g3 g4 g5 xa xc ta tc xs c.th (k : Int)) => Pass_calls c hc xs xn tn ln hxn hcx htn hln g3 g4 g5 xa xc ta tc (k : Int) W hN (hp.belowN hW) hpl (hq.belowN hW) hql V D hV)
  have d1 : decide ((k : Int) < 0) = false := decide_eq_false (by omega)
  have d2 : ¬ ((xn : Int) + (tn : Int) ≤ (k : Int)) := by omega
  have d3 : decide ((k : Int) ≥ (xn : Int) + (tn : Int)) = false := decide_eq_false (by omega)
  have d4 : decide ((xn : Int) + (tn : Int) ≤ (k : Int)) = false := decide_eq_false (by omega)
  have d5 : decide (xn + tn ≤ k) = false := decide_eq_false (by omega)
  clear hc hxn hcx htn hm hV hk
  go_enter Tryz.func23, Tryz.ntmps23
  go_wp2_with (go_at_call 52; go_must ((with_reducible refine (HM.out).mono ?_); rintro e w1 ⟨rfl, hb1⟩; have hB1 := hb0.trans (hb1.mono hb0.size); obtain ⟨q0, q1, q2, q3⟩ := (hX.belowN hb1).c2; obtain ⟨q4, q5, q6, q7⟩ := (hY.belowN hb1).c2))
  have hX1 := hX.belowN hb1
  have hY1 := hY.belowN hb1
  have hz1 := hB1.size
  have hgX := hX1.lt
  have hgY := hY1.lt
  have hd0 : Below w1.heap.size w1 w1.drew := Below.drew (Below.refl _ _)
  have hdZ : Below w1.heap.size w1 (w1.alloc (.cells #[.int .u64 0, .int .u64 0] 111)).drew := Below.drew (below_box w1 _)
  have hNb : Blk (w1.alloc (.cells #[.int .u64 0, .int .u64 0] 111)).drew w1.heap.size 111 #[.int .u64 0, .int .u64 0] := Blk.new w1 _ _
  have n1 : w1.heap.size ≠ w.heap.size := by omega
  have n2 : w1.heap.size ≠ w.heap.size + 1 := by omega
  have hBd0 := hB1.trans (hd0.mono hz1)
  have hBdZ := hB1.trans (hdZ.mono hz1)
  have HSI : Hid (∀ w4, Below w1.heap.size w1 w4 → (w4.cell? ⟨w.heap.size, 0, none⟩ = some (.int .i64 c.p.regs) ∧ w4.cell? ⟨w.heap.size, 1, none⟩ = some (.slice c.p.a c.p.l.length c.p.c)) ∧ w4.cell? ⟨w.heap.size + 1, 0, none⟩ = some (.int .i64 c.q.regs) ∧ w4.cell? ⟨w.heap.size + 1, 1, none⟩ = some (.slice c.q.a c.q.l.length c.q.c)) := hide (fun w4 h4 => by
    obtain ⟨y0, y1, _⟩ := (hX1.belowN h4).c2
    obtain ⟨y2, y3, _⟩ := (hY1.belowN h4).c2
    exact ⟨⟨y0, y1⟩, y2, y3⟩)
  go_region_held3 (fun w' => (w'.cell? ⟨w.heap.size, 0, none⟩ = some (.int .i64 c.p.regs) ∧ w'.cell? ⟨w.heap.size, 1, none⟩ = some (.slice c.p.a c.p.l.length c.p.c)) ∧ w'.cell? ⟨w.heap.size + 1, 0, none⟩ = some (.int .i64 c.q.regs) ∧ w'.cell? ⟨w.heap.size + 1, 1, none⟩ = some (.slice c.q.a c.q.l.length c.q.c)) (go_keep)
    (first
      | (go_at_call 54; go_must (first
          | ((with_reducible refine (HNU.out _ hBdZ).mono ?_); rintro e w4 ⟨g3, g4, g5, rfl, hNA, hb4⟩; have hB4 := hdZ.trans (hb4.mono hdZ.size); obtain ⟨⟨t0, t1⟩, t2, t3⟩ := HSI.out w4 hB4; have hN4 := hNb.belowN hb4; obtain ⟨u0, u1, u2, u3⟩ := hN4.c2)
          | ((with_reducible refine (HNU.out _ hBd0).mono ?_); rintro e w4 ⟨g3, g4, g5, rfl, hNA, hb4⟩; have hB4 := hd0.trans (hb4.mono hd0.size); obtain ⟨⟨t0, t1⟩, t2, t3⟩ := HSI.out w4 hB4; have n3 : w4.heap.size ≠ w.heap.size := (by have := hB4.size; omega); have n4 : w4.heap.size ≠ w.heap.size + 1 := (by have := hB4.size; omega))))
      | (go_at_call 53; go_must (first
          | ((with_reducible refine (HPA.out w4 (hB1.trans (hB4.mono hz1)) _ _ _ hNA).mono ?_); rintro e w6 ⟨rfl, hb6⟩; have hB6 := hB4.trans (hb6.mono hB4.size); obtain ⟨⟨t0, t1⟩, t2, t3⟩ := HSI.out w6 hB6; (try have hN6 := hN4.belowN hb6); (try obtain ⟨u0, u1, u2, u3⟩ := hN6.c2); have n5 : w6.heap.size ≠ w.heap.size := (by have := hB6.size; omega); have n6 : w6.heap.size ≠ w.heap.size + 1 := (by have := hB6.size; omega))
          | ((with_reducible refine (HPA.out (w4.alloc (.cells #[.int .u64 0, .int .u64 0] 111)) (hB1.trans ((hB4.trans ((below_box w4 (.cells #[.int .u64 0, .int .u64 0] 111)).mono hB4.size)).mono hz1)) _ _ _ (hNA.belowN (below_box w4 (.cells #[.int .u64 0, .int .u64 0] 111)))).mono ?_); rintro e w6 ⟨rfl, hb6⟩; have hB5 := hB4.trans ((below_box w4 (.cells #[.int .u64 0, .int .u64 0] 111)).mono hB4.size); have hB6 := hB5.trans (hb6.mono hB5.size); obtain ⟨⟨t0, t1⟩, t2, t3⟩ := HSI.out w6 hB6; have hN6 := (Blk.new w4 111 #[.int .u64 0, .int .u64 0]).belowN hb6; obtain ⟨u0, u1, u2, u3⟩ := hN6.c2))))
  all_goals
    first
      | (have hF := (hN6.set_ 0 (.int .u64 (V.toNat : Int))).set_ 1 (.int .u64 (D.toNat : Int)))
      | (have hF := Blk.new w6 111 #[.int .u64 (V.toNat : Int), .int .u64 (D.toNat : Int)])
  all_goals have hB7 := hB1.trans (hB6.mono hz1)
  all_goals have hz4 := hB4.size
  all_goals have hz6 := hB7.size
  all_goals obtain ⟨v0, v1, v2, v3⟩ := hF.c2
  all_goals go_wp2
  all_goals go_region
  all_goals go_wp2
  all_goals go_ret3
  all_goals refine ⟨rfl, ?_⟩
  all_goals refine Below.drew ?_
  all_goals
    first
      | exact hB7.alloc hz6 _
      | exact (hB7.setCell (p := ⟨w4.heap.size, 0, none⟩) (by show w.heap.size ≤ w4.heap.size; omega) _).setCell (p := ⟨w4.heap.size, 1, none⟩) (by show w.heap.size ≤ w4.heap.size; omega) _
      | exact (hB7.setCell (p := ⟨w1.heap.size, 0, none⟩) hz1 _).setCell (p := ⟨w1.heap.size, 1, none⟩) hz1 _
set_option maxRecDepth 100000 in
set_option maxHeartbeats 6400000 in
theorem MAlong_bad (c : ChD) (xn tn : Nat) (hcx : c.x = (xn : Int)) (htn : tn = c.th.length) (hxl : xn ≤ 1000000) (htl : tn ≤ 1000000) (l k : Int) (xa : Option Addr) (xc : Nat) (ta : Option Addr) (tc : Nat) (w : World) (ht : At w ta c.th)
    (hp : At w c.p.a c.p.l) (hpl : c.p.l.length ≤ 1000000) (hq : At w c.q.a c.q.l) (hql : c.q.l.length ≤ 1000000) (E : Int) (hE : c.alE xn l k = E) (h0 : E ≠ 0) :
    Calls Tryz.prog 23 #[.agg #[.int .i64 c.p.regs, .slice c.p.a c.p.l.length c.p.c], .agg #[.int .i64 c.q.regs, .slice c.q.a c.q.l.length c.q.c], .slice xa xn xc, .slice ta tn tc, .int .i64 l, .int .i64 k] w fun e w' => e = .returned (.tuple #[.int .u64 0, .int .u64 0, .int .i64 E]) ∧ Below w.heap.size w w' := by
  obtain ⟨hX, hY, hb0, hz0⟩ := two_boxes w 24 24 #[.int .i64 c.p.regs, .slice c.p.a c.p.l.length c.p.c] #[.int .i64 c.q.regs, .slice c.q.a c.q.l.length c.q.c]
  obtain ⟨p0, p1, p2, p3⟩ := hX.c2
  obtain ⟨p4, p5, p6, p7⟩ := hY.c2
  obtain ⟨M, hM⟩ : ∃ M, c.mayM l = M := ⟨_, rfl⟩
  have HM := hide (May24M_calls c ta tc l _ (hp.belowN hb0) hpl (hq.belowN hb0) hql (ht.belowN hb0) (by rw [hcx]; omega) (by omega) M hM)
  rw [← htn, hcx] at HM
  unfold ChD.alE at hE
  rw [hM, ← htn] at hE
  by_cases hM0 : M ≠ 0
  · rw [if_pos hM0] at hE
    subst hE
    have e1 : (M == 0) = false := by simpa using hM0
    have e2 : (M != 0) = true := by simpa using hM0
    clear hM0 hM h0 hcx htn
    go_enter Tryz.func23, Tryz.ntmps23
    go_wp2_with (go_at_call 52; go_must ((with_reducible refine (HM.out).mono ?_); rintro e w1 ⟨rfl, hb1⟩))
    go_ret3
    exact ⟨rfl, hb0.trans (hb1.mono hb0.size)⟩
  · rw [if_neg hM0] at hE
    obtain rfl : M = 0 := Decidable.not_not.1 hM0
    by_cases hk : k < 0 ∨ ((xn + tn : Nat) : Int) ≤ k
    · rw [if_pos hk] at hE
      subst hE
      clear hM0 hM h0 hcx htn
      by_cases h1 : k < 0
      · go_enter Tryz.func23, Tryz.ntmps23
        go_wp2_with (go_at_call 52; go_must ((with_reducible refine (HM.out).mono ?_); rintro e w1 ⟨rfl, hb1⟩))
        go_ret3
        exact ⟨rfl, hb0.trans (hb1.mono hb0.size)⟩
      · have h2 : (xn : Int) + (tn : Int) ≤ k := by omega
        have d3 : decide (k ≥ (xn : Int) + (tn : Int)) = true := decide_eq_true h2
        clear hk
        go_enter Tryz.func23, Tryz.ntmps23
        go_wp2_with (go_at_call 52; go_must ((with_reducible refine (HM.out).mono ?_); rintro e w1 ⟨rfl, hb1⟩))
        go_ret3
        exact ⟨rfl, hb0.trans (hb1.mono hb0.size)⟩
    · rw [if_neg hk] at hE
      exact absurd hE.symm h0
theorem MAlong_calls (c : ChD) (xs : List UInt64) (xn tn : Nat) (hxn : xn = xs.length) (hcx : c.x = (xn : Int)) (htn : tn = c.th.length) (hxl : xn ≤ 1000000) (htl : tn ≤ 1000000) (l k : Int) (xa : Option Addr) (xc : Nat) (ta : Option Addr) (tc : Nat) (w : World) (hx : At w xa xs) (ht : At w ta c.th)
    (hp : At w c.p.a c.p.l) (hpl : c.p.l.length ≤ 1000000) (hq : At w c.q.a c.q.l) (hql : c.q.l.length ≤ 1000000) (V D : UInt64) (E : Int) (hV : c.alD xs l k = ⟨V, D⟩) (hE : c.alE xn l k = E) :
    Calls Tryz.prog 23 #[.agg #[.int .i64 c.p.regs, .slice c.p.a c.p.l.length c.p.c], .agg #[.int .i64 c.q.regs, .slice c.q.a c.q.l.length c.q.c], .slice xa xn xc, .slice ta tn tc, .int .i64 l, .int .i64 k] w fun e w' => e = .returned (.tuple #[.int .u64 (V.toNat : Int), .int .u64 (D.toNat : Int), .int .i64 E]) ∧ Below w.heap.size w w' := by
  by_cases h0 : E = 0
  · subst h0
    unfold ChD.alD at hV
    rw [← hxn, if_pos hE] at hV
    unfold ChD.alE at hE
    split at hE
    · rename_i h1; exact absurd hE h1
    · rename_i h1
      split at hE
      · cases hE
      · rename_i h2
        rw [← htn] at h2
        have hm : c.mayM l = 0 := Decidable.not_not.1 h1
        obtain ⟨hc, l1, l2⟩ := ChD.mayM_ok hm
        obtain ⟨ln, rfl⟩ : ∃ n : Nat, l = n := ⟨l.toNat, by omega⟩
        obtain ⟨kn, rfl⟩ : ∃ n : Nat, k = n := ⟨k.toNat, by omega⟩
        rw [Int.toNat_natCast] at hV
        exact MAlong_good c hc xs xn tn ln hxn hcx htn (by omega) xa xc ta tc kn (by omega) w hx ht hp hpl hq hql hm V D hV
  · unfold ChD.alD at hV
    rw [← hxn, hE, if_neg h0] at hV
    injection hV with h1 h2
    subst h1 h2
    exact MAlong_bad c xn tn hcx htn hxl htl l k xa xc ta tc w ht hp hpl hq hql E hE h0
end Go.Proofs.YtcamcnahkdiefaaGreat

/- Chapter 24: the document's Gradient. -/
namespace Go.Proofs.YtcamcnahkdiefaaGreat
set_option linter.unusedVariables false
set_option linter.unusedSimpArgs false
open Go.RowKit
noncomputable def ChD.gradL (c : ChD) (xs : List UInt64) (l a k : Nat) : List UInt64 := (List.range k).map fun j => (c.passAt xs l ((a + j : Nat) : Int)).d
theorem ChD.gradL_succ (c : ChD) (xs : List UInt64) (l a k : Nat) : c.gradL xs l a (k + 1) = c.gradL xs l a k ++ [(c.passAt xs l ((a + k : Nat) : Int)).d] := by
  unfold ChD.gradL; rw [List.range_succ, List.map_append]; rfl
theorem ChD.gradL_len (c : ChD) (xs : List UInt64) (l a k : Nat) : (c.gradL xs l a k).length = k := by unfold ChD.gradL; simp
noncomputable def ChD.gradV (c : ChD) (xs : List UInt64) (l k : Nat) : UInt64 := if k = 0 then 0 else (c.passAt xs l ((k - 1 : Nat) : Int)).v
structure GrH (T E : TypeId) (w : World) (g : Nat) (V : UInt64) (nx : Nat) (ax : Option Addr) (cx nt : Nat) (at_ : Option Addr) (ct Bt : Nat) (LX LT : List UInt64) : Prop where
  blk : Blk w g T #[.int .u64 (V.toNat : Int), .slice ax nx cx, .slice at_ nt ct]
  nx : nx = LX.length
  nt : nt = LT.length
  x : Own w (g + 1) E ax cx LX
  t : Own w Bt E at_ ct LT
  b1 : g + 1 ≤ Bt
  b2 : Bt ≤ w.heap.size
  lt : ∀ k, ax.map (·.block) = some k → k < Bt
theorem GrH.keep {T E : TypeId} {w w' : World} {g : Nat} {V : UInt64} {nx : Nat} {ax : Option Addr} {cx nt : Nat} {at_ : Option Addr} {ct Bt : Nat} {LX LT : List UInt64} (h : GrH T E w g V nx ax cx nt at_ ct Bt LX LT) (hb : Below w.heap.size w w') : GrH T E w' g V nx ax cx nt at_ ct Bt LX LT :=
  ⟨h.blk.belowN hb, h.nx, h.nt, h.x.belowN hb, h.t.belowN hb, h.b1, Nat.le_trans h.b2 hb.size, h.lt⟩
theorem GrH.setV {T E : TypeId} {w : World} {g : Nat} {V : UInt64} {nx : Nat} {ax : Option Addr} {cx nt : Nat} {at_ : Option Addr} {ct Bt : Nat} {LX LT : List UInt64} (h : GrH T E w g V nx ax cx nt at_ ct Bt LX LT) (V' : UInt64) : GrH T E (w.setCell ⟨g, 0, none⟩ (.int .u64 (V'.toNat : Int))) g V' nx ax cx nt at_ ct Bt LX LT :=
  ⟨h.blk.set_ 0 _, h.nx, h.nt, h.x.setCell (p := ⟨g, 0, none⟩) (Nat.lt_succ_self g) _, h.t.setCell (p := ⟨g, 0, none⟩) h.b1 _, h.b1, by have := h.b2; simp; omega, h.lt⟩
theorem GrH.blkX {T E : TypeId} {w w' : World} {g : Nat} {V : UInt64} {nx : Nat} {ax : Option Addr} {cx nt : Nat} {at_ : Option Addr} {ct Bt : Nat} {LX LT : List UInt64} (h : GrH T E w g V nx ax cx nt at_ ct Bt LX LT) (hg : w.grownBy w' (ax.map (·.block))) : Blk w' g T #[.int .u64 (V.toNat : Int), .slice ax nx cx, .slice at_ nt ct] :=
  h.blk.grown hg fun e => by have := (h.x.blk g e.symm).1; omega
theorem GrH.blkT {T E : TypeId} {w w' : World} {g : Nat} {V : UInt64} {nx : Nat} {ax : Option Addr} {cx nt : Nat} {at_ : Option Addr} {ct Bt : Nat} {LX LT : List UInt64} (h : GrH T E w g V nx ax cx nt at_ ct Bt LX LT) (hg : w.grownBy w' (at_.map (·.block))) : Blk w' g T #[.int .u64 (V.toNat : Int), .slice ax nx cx, .slice at_ nt ct] :=
  h.blk.grown hg fun e => by have := (h.t.blk g e.symm).1; have := h.b1; omega
theorem GrH.pushX {T E : TypeId} {w w' : World} {g : Nat} {V : UInt64} {nx : Nat} {ax : Option Addr} {cx Bt : Nat} {LX : List UInt64} (h : GrH T E w g V nx ax cx 0 none 0 Bt LX []) {a' : Option Addr} {c' : Nat} {D : UInt64} (hown : Own w' (g + 1) E a' c' (LX ++ [D])) (hg : w.grownBy w' (ax.map (·.block))) :
    GrH T E (w'.setCell ⟨g, 1, none⟩ (.slice a' (nx + 1) c')) g V (nx + 1) a' c' 0 none 0 w'.heap.size (LX ++ [D]) [] :=
  ⟨(h.blkX hg).set_ 1 _, by have := h.nx; simp; omega, rfl, hown.setCell (p := ⟨g, 1, none⟩) (Nat.lt_succ_self g) _, Own.none _ _ _, (h.blkX hg).lt, by simp, fun k hk => (hown.blk k hk).2⟩
theorem GrH.pushT {T E : TypeId} {w w' : World} {g : Nat} {V : UInt64} {nx : Nat} {ax : Option Addr} {cx nt : Nat} {at_ : Option Addr} {ct Bt : Nat} {LX LT : List UInt64} (h : GrH T E w g V nx ax cx nt at_ ct Bt LX LT) {a' : Option Addr} {c' : Nat} {D : UInt64} (hown : Own w' Bt E a' c' (LT ++ [D])) (hg : w.grownBy w' (at_.map (·.block))) :
    GrH T E (w'.setCell ⟨g, 2, none⟩ (.slice a' (nt + 1) c')) g V nx ax cx (nt + 1) a' c' Bt LX (LT ++ [D]) := by
  have hx : Own w' (g + 1) E ax cx LX := h.x.grown hg (by
    cases ha : ax with
    | none => exact .inl rfl
    | some p => exact .inr fun e => by have h1 := (h.t.blk p.block e.symm).1; have h2 := h.lt p.block (by rw [ha]; rfl); omega)
  exact ⟨(h.blkT hg).set_ 2 _, h.nx, by have := h.nt; simp; omega, hx.setCell (p := ⟨g, 2, none⟩) (Nat.lt_succ_self g) _, hown.setCell (p := ⟨g, 2, none⟩) h.b1 _, h.b1, by have := h.b2; have := hg.size; simp; omega, h.lt⟩
noncomputable def ChD.gV (c : ChD) (xs : List UInt64) (l : Int) : UInt64 := if c.mayM l = 0 then c.gradV xs l.toNat (xs.length + c.th.length) else 0
noncomputable def ChD.gX (c : ChD) (xs : List UInt64) (l : Int) : List UInt64 := if c.mayM l = 0 then c.gradL xs l.toNat 0 xs.length else []
noncomputable def ChD.gT (c : ChD) (xs : List UInt64) (l : Int) : List UInt64 := if c.mayM l = 0 then c.gradL xs l.toNat xs.length c.th.length else []
def GradOut (E : TypeId) (B : Nat) (V : UInt64) (LX LT : List UInt64) (er : Int) (w0 : World) (e : Ending) (w' : World) : Prop :=
  ∃ a1 n1 c1 a2 n2 c2, e = .returned (.tuple #[.agg #[.int .u64 (V.toNat : Int), .slice a1 n1 c1, .slice a2 n2 c2], .int .i64 er]) ∧ n1 = LX.length ∧ n2 = LT.length ∧ Own w' B E a1 c1 LX ∧ Own w' B E a2 c2 LT ∧ Below B w0 w'
end Go.Proofs.YtcamcnahkdiefaaGreat
