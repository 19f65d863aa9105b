/- Chapter 17: tidy.Pack. -/
import Derived.Test.YthncfoompoheoaaTf
import Derived.Test.YthncfoompoheoaaW17f
import Derived.Test.YthncfoompoheoaaW17b
import Derived.Maps.OwnOps
namespace Go.Proofs.Ythncfoompoheoaa
set_option linter.unusedVariables false
set_option linter.unusedSimpArgs false
open Go.RowKit Go.Maps
theorem results_row_tmp2 {P : Program} {fn : Func} {p u v : Tmp} {ty : TypeId} (h : fn.results = #[.cell p ty, .tmp u, .tmp v]) (tmps : Array Value) (w : World) (g : Nat) (t : TypeId) (cs : Array Value) (fr : Nat × Nat) (d : TypeDesc)
    (hp : tmps.getD p undef = .pointer (some ⟨g, 0, none⟩)) (hg : w.heap[g]? = some (.cells cs t fr)) (hu : P.underlying ty = some d) (hd : (match d with | .struct _ | .array _ _ => true | _ => false) = true) (hi : (P.info? ty).map (·.size) = some cs.size) :
    (results fn tmps).run P w = .ok (.tuple #[.agg cs, tmps.getD u undef, tmps.getD v undef]) w := by
  have h0 : (results fn tmps).run P w =
      ((asAddr (tmps.getD p undef)).run P w).andThen fun a w₁ => ((loadVar ty a).run P w₁).andThen fun z w₂ => .ok (.tuple #[z, tmps.getD u undef, tmps.getD v undef]) w₂ := by
    simp only [results, h]
    simp [Sem.run_bind, Result.andThen]
  rw [h0, hp]
  simp [asAddr, run_loadVar_row w g t ty cs fr d hg hu hd hi, Result.andThen]
def PackOut (E : Int) (W : List Int) (L : List OpD) (w : World) (e : Ending) (w' : World) : Prop :=
  ∃ (a' : Option Addr) (c' n : Nat) (b' : Option Addr) (d' m : Nat), e = .returned (.tuple #[.agg #[.int .i64 (m : Int), .slice a' n c'], .slice b' m d', .int .i64 E]) ∧ n = L.length ∧ m = W.length ∧ Own w' w.heap.size 99 a' c' L ∧ Own w' w.heap.size 3 b' d' W ∧ Below w.heap.size w w'
/-- the map of new numbers -/
def NumD (D : DataW Unit) (W : List Int) : Prop := IsMap D ∧ ∀ n : Int, D.atKey (.int .i64 n) (.lit (.int .i64 0)) = .lit (.int .i64 (plc W n))
theorem numD_nil : NumD (.map []) [] := ⟨isMap_empty, fun n => rfl⟩
theorem numD_put {D : DataW Unit} {W : List Int} (h : NumD D W) {v : Int} (hv : v ∉ W) {m : Nat} (hm : m = W.length) : NumD (D.put (.int .i64 v) (.lit (.int .i64 (m : Int)))) (W ++ [v]) := by
  refine ⟨h.1.put _ _, fun n => ?_⟩
  by_cases e : n = v
  · subst e
    rw [atKey_put_same h.1 (by simp [WideAt.IsKeyLit]), plc_eq W hv, hm]
  · rw [atKey_put_other (fun h => e (by injection h)), h.2 n, plc_ne W e]
theorem ownsMap_turned {F : List Nat} {w w' : World} {P : Program} {k : TypeId} {R : Value → Option (DataW Unit × List MemPlace)} {b n : Nat} {D : DataW Unit} (h : w.ownsMap P k R b n D) (hT : Turned F w w') (hb : b ∉ F) : w'.ownsMap P k R b n D := by
  have hlt := h.lt
  obtain ⟨es, clock, h0, r⟩ := h
  exact ⟨es, clock, (hT.block b hlt hb).trans h0, r⟩
theorem At.getPt {w wr : World} {a : Option Addr} {l : List Addr} (h : At w a l) (hb : Below w.heap.size w wr) {k : Nat} {x : Addr} (hx : l[k]? = some x) :
    ∃ b off, a = some ⟨b, off, none⟩ ∧ wr.cell? ⟨b, off + k, none⟩ = some (.pointer (some x)) := by
  obtain ⟨b, off, y, e, hy, hc⟩ := (h.belowN hb).get (List.getElem?_eq_some_iff.1 hx).1
  obtain rfl : x = y := by have := hx.symm.trans hy.out; simpa using this
  have := hc 0 _ rfl
  exact ⟨b, off, e, by simpa [Flat.n] using this⟩
theorem ne_of_push {a a' : Option Addr} {g n : Nat} (h : a'.map (·.block) = a.map (·.block) ∨ ∃ q, a'.map (·.block) = some q ∧ n ≤ q) (hne : a.map (·.block) ≠ some g) (hg : g < n) : a'.map (·.block) ≠ some g := by
  rcases h with e | ⟨q, e, hq⟩
  · rw [e]; exact hne
  · rw [e]; intro h; injection h with h; omega
theorem setO_enc {y : OpD} {f : Nat} (hf : f = 1 ∨ f = 2 ∨ f = 3) (v : Int) : f < Flat.n OpD ∧ Flat.enc (setO y f v) = (Flat.enc y).set f (.int .i64 v) := by
  rcases hf with rfl | rfl | rfl <;> exact ⟨by decide, rfl⟩
theorem part_succ {p : OpD → OpD} {F : List OpD} {i : Nat} {x : OpD} (h : F[i]? = some x) : ((F.take i).map p ++ F.drop i).set i (p x) = (F.take (i + 1)).map p ++ F.drop (i + 1) := by
  have hi := (List.getElem?_eq_some_iff.1 h).1
  have hx : F[i] = x := by rw [List.getElem?_eq_getElem hi] at h; injection h
  rw [List.set_append_right _ _ (by simp; omega), List.drop_eq_getElem_cons hi, hx]
  have e : i - ((F.take i).map p).length = 0 := by simp; omega
  rw [e, List.set_cons_zero, List.take_add_one, h]
  simp
theorem part_get {p : OpD → OpD} {F : List OpD} {i : Nat} {x : OpD} (h : F[i]? = some x) : ((F.take i).map p ++ F.drop i)[i]? = some x := by
  have hi := (List.getElem?_eq_some_iff.1 h).1
  rw [List.getElem?_append_right (by simp; omega)]
  have e : i - ((F.take i).map p).length = 0 := by simp; omega
  rw [e, List.getElem?_drop, Nat.add_zero, h]
/-- a register of an operation in memory -/
theorem fld_cell {w : World} {g off : Nat} {x : OpD} (x1 : w.cell? ⟨g, off + 1, none⟩ = some (.int .i64 x.d)) (x2 : w.cell? ⟨g, off + 2, none⟩ = some (.int .i64 x.a)) (x3 : w.cell? ⟨g, off + 3, none⟩ = some (.int .i64 x.b)) {f : Nat} (hf : f = 1 ∨ f = 2 ∨ f = 3) : w.cell? ⟨g, off + f, none⟩ = some (.int .i64 (fldO x f)) := by
  rcases hf with rfl | rfl | rfl
  · exact x1
  · exact x2
  · exact x3
theorem askF_123 {x : OpD} {j f : Nat} (h : (askF x)[j]? = some f) : f = 1 ∨ f = 2 ∨ f = 3 := by
  rcases askF_in x f (List.mem_of_getElem? h) with ⟨h, _⟩ | ⟨h, _⟩ | ⟨h, _⟩ <;> simp [h]
theorem lawI : Keyed Try.prog 3 := int_keyed Try.underlying3
theorem zeroI (w : World) : (zeroValue 3).run Try.prog w = .ok (.int .i64 0) w := by kernel_rfl
theorem askP_map (g off : Nat) (x : OpD) : askP g off x = (askF x).map (fun f => (⟨g, off + f, none⟩ : Addr)) := by
  unfold askP askF
  split <;> (split <;> (try split) <;> rfl)
set_option maxRecDepth 100000 in
set_option maxHeartbeats 6400000 in
theorem pack_bad (regs : Int) (a : Option Addr) (c ln : Nat) (l : List OpD) (hln : ln = l.length) (keep : Int) (w : World) (h : At w a l) (hl : ln ≤ 1000000) (E : Int) (hE : packE regs l keep = E) (hE0 : E ≠ 0) :
    Calls Try.prog 51 #[.agg #[.int .i64 regs, .slice a ln c], .int .i64 keep] w (PackOut E [] [] w) := by
  have hb0 := (below_new12 w (.cells #[.int .i64 regs, .slice a ln c] 24)).alloc (by simp) (.cells #[.int .i64 0, .slice none 0 0] 24)
  have hX := (Blk.new w 24 #[.int .i64 regs, .slice a ln c]).alloc (.cells #[.int .i64 0, .slice none 0 0] 24)
  have hR := Blk.new (w.alloc (.cells #[.int .i64 regs, .slice a ln c] 24)) 24 #[.int .i64 0, .slice none 0 0]
  simp only [World.size_alloc] at hR
  have h1 := h.belowN hb0
  subst hln
  have HP := hide (Prog_calls regs a c l _ h1 hl)
  unfold packE at hE
  by_cases hc : checkS regs l = 0
  · rw [if_neg (by rw [hc]; simp)] at hE
    rw [hc] at HP
    have hk : keep < 1 ∨ regs < keep := by
      by_cases hk : keep < 1 ∨ regs < keep
      · exact hk
      · rw [if_neg hk] at hE; exact absurd hE.symm hE0
    rw [if_pos hk] at hE
    subst hE
    clear hc hE0
    have hkk : keep < 1 ∨ (¬ keep < 1 ∧ regs < keep) := by omega
    rcases hkk with k1 | ⟨k1, k2⟩
    · go_enter Try.func51, Try.ntmps51
      go_wp2_with (go_at_call 91; go_must ((with_reducible refine (HP.out).mono ?_); rintro e w1 ⟨rfl, hb1⟩; have hB1 := hb0.trans (hb1.mono hb0.size); have hR2 := hR.belowN hb1; obtain ⟨p0, p1, p2, p3⟩ := (hX.belowN hb1).c2; obtain ⟨r0, r1, r2, r3⟩ := hR2.c2))
      try simp only [Exit.then, Exit.inBlock]
      try rw [Exit.noGoto_ret]
      have hF6 := (hR2.set_ 0 (.int .i64 0)).set_ 1 (.slice none 0 0)
      refine bodyPost_ret (results_row_tmp2 rfl _ _ (w.heap.size + 1) _ #[.int .i64 0, .slice none 0 0] (0, 0) _ rfl hF6 Try.underlying24 rfl (by kernel_rfl)) rfl ?_
      exact ⟨none, 0, 0, none, 0, 0, rfl, rfl, rfl, Own.none _ _ _, Own.none _ _ _, ((hB1.setCell (p := ⟨w.heap.size + 1, 0, none⟩) (Nat.le_succ _) _).setCell (p := ⟨w.heap.size + 1, 1, none⟩) (Nat.le_succ _) _)⟩
    · have k3 : 1 ≤ keep := by omega
      have k4 : decide (keep > regs) = true := decide_eq_true (by omega)
      have k5 : decide (regs < keep) = true := decide_eq_true (by omega)
      go_enter Try.func51, Try.ntmps51
      go_wp2_with (go_at_call 91; go_must ((with_reducible refine (HP.out).mono ?_); rintro e w1 ⟨rfl, hb1⟩; have hB1 := hb0.trans (hb1.mono hb0.size); have hR2 := hR.belowN hb1; obtain ⟨p0, p1, p2, p3⟩ := (hX.belowN hb1).c2; obtain ⟨r0, r1, r2, r3⟩ := hR2.c2))
      try simp only [Exit.then, Exit.inBlock]
      try rw [Exit.noGoto_ret]
      have hF6 := (hR2.set_ 0 (.int .i64 0)).set_ 1 (.slice none 0 0)
      refine bodyPost_ret (results_row_tmp2 rfl _ _ (w.heap.size + 1) _ #[.int .i64 0, .slice none 0 0] (0, 0) _ rfl hF6 Try.underlying24 rfl (by kernel_rfl)) rfl ?_
      exact ⟨none, 0, 0, none, 0, 0, rfl, rfl, rfl, Own.none _ _ _, Own.none _ _ _, ((hB1.setCell (p := ⟨w.heap.size + 1, 0, none⟩) (Nat.le_succ _) _).setCell (p := ⟨w.heap.size + 1, 1, none⟩) (Nat.le_succ _) _)⟩
  · rw [if_pos hc] at hE
    rw [hE] at HP
    have e2 : (E == 0) = false := by simpa using hE0
    have e3 : (E != 0) = true := by simpa using hE0
    clear hc hE hE0
    go_enter Try.func51, Try.ntmps51
    go_wp2_with (go_at_call 91; go_must ((with_reducible refine (HP.out).mono ?_); rintro e w1 ⟨rfl, hb1⟩; have hB1 := hb0.trans (hb1.mono hb0.size); have hR2 := hR.belowN hb1; obtain ⟨r0, r1, r2, r3⟩ := hR2.c2))
    try simp only [Exit.then, Exit.inBlock]
    try rw [Exit.noGoto_ret]
    have hF6 := (hR2.set_ 0 (.int .i64 0)).set_ 1 (.slice none 0 0)
    refine bodyPost_ret (results_row_tmp2 rfl _ _ (w.heap.size + 1) _ #[.int .i64 0, .slice none 0 0] (0, 0) _ rfl hF6 Try.underlying24 rfl (by kernel_rfl)) rfl ?_
    exact ⟨none, 0, 0, none, 0, 0, rfl, rfl, rfl, Own.none _ _ _, Own.none _ _ _, ((hB1.setCell (p := ⟨w.heap.size + 1, 0, none⟩) (Nat.le_succ _) _).setCell (p := ⟨w.heap.size + 1, 1, none⟩) (Nat.le_succ _) _)⟩
set_option maxRecDepth 100000 in
set_option maxHeartbeats 6400000 in
theorem pack_good (regs : Int) (a : Option Addr) (c n : Nat) (f : Fo) (hn : n = f.flat.length) (keep : Int) (g : Good regs f) (hk1 : 1 ≤ keep) (hk2 : keep ≤ regs) (w : World) (h : At w a f.flat) :
    Calls Try.prog 51 #[.agg #[.int .i64 regs, .slice a n c], .int .i64 keep] w (PackOut 0 (wasL keep f.flat regs.toNat) (f.flat.map (packO (wasL keep f.flat regs.toNat))) w) := by
  have hl : f.flat.length ≤ 4096 := g.len
  have hb0 := (below_new12 w (.cells #[.int .i64 regs, .slice a n c] 24)).alloc (by simp) (.cells #[.int .i64 0, .slice none 0 0] 24)
  have hX := (Blk.new w 24 #[.int .i64 regs, .slice a n c]).alloc (.cells #[.int .i64 0, .slice none 0 0] 24)
  have hR := Blk.new (w.alloc (.cells #[.int .i64 regs, .slice a n c] 24)) 24 #[.int .i64 0, .slice none 0 0]
  simp only [World.size_alloc] at hR
  have h1 := h.belowN hb0
  have HP := hide (Prog_calls regs a c f.flat _ h1 (by omega))
  rw [g.check] at HP
  have hr1 := g.r1
  have hr2 := g.r2
  have HVAL := hide g.vals
  obtain ⟨F, hF⟩ : ∃ F, f.flat = F := ⟨_, rfl⟩
  rw [hF] at HP HVAL h h1 hl hn ⊢
  obtain ⟨nr, rfl⟩ : ∃ nr : Nat, regs = nr := ⟨regs.toNat, by omega⟩
  obtain ⟨kp, rfl⟩ : ∃ kp : Nat, keep = kp := ⟨keep.toNat, by omega⟩
  rw [← hn] at HP hl
  rw [Int.toNat_natCast]
  have HCL := hide (fun W (k1 : At W a F) => CloneO_calls a n c F W hn k1 (by omega))
  have HN := hide hn
  have k1 : decide ((kp : Int) < 1) = false := decide_eq_false (by omega)
  have k2 : decide ((kp : Int) > (nr : Int)) = false := decide_eq_false (by omega)
  have k3 : decide (nr < kp) = false := decide_eq_false (by omega)
  have k4 : decide (kp < 1) = false := decide_eq_false (by omega)
  have hmm := @run_makeMap Try.prog
  have hkn : kp ≤ nr := by omega
  have hnr : nr ≤ 64 := by omega
  have hkp1 : 1 ≤ kp := by omega
  clear hn g hF hr1 hr2 hk1 hk2
  go_enter Try.func51, Try.ntmps51
  go_wp2_with (first
    | (go_at_call 91; go_must ((with_reducible refine (HP.out).mono ?_); rintro e w1 ⟨rfl, hb1⟩; have hB1 := hb0.trans (hb1.mono hb0.size); obtain ⟨p0, p1, p2, p3⟩ := (hX.belowN hb1).c2))
    | (go_at_call 98; go_must ((with_reducible refine (HCL.out _ (h1.belowN hb1)).mono ?_); rintro e w2 ⟨ao, co, rfl, hown2, hb2⟩; have hC2 := hb1.trans (hb2.mono hb1.size); obtain ⟨q0, q1, q2, q3⟩ := (hX.belowN hC2).c2))
    | (at_make; go_must (refine wpList_mk tyB0 (B := w2.heap.size) (n := nr) rfl rfl rfl rfl rfl rfl (Nat.le_refl _) (by omega) ?_; intro w3 hown3 hg3; have hb3 := below_of_grown hg3)))
  have hz2 := hC2.size
  have hB2 := hb0.trans (hC2.mono hb0.size)
  have hX2 := hX.belowN hC2
  have hR2 := hR.belowN hC2
  have hat2 := hown2.at_
  have hxl := hX2.lt
  have hrl := hR2.lt
  have hU0 : usedAt nr F 0 = List.replicate nr false := rfl
  rw [← hU0] at hown3
  obtain ⟨gu, hgu⟩ : ∃ gu, gu = w2.heap.size := ⟨_, rfl⟩
  have HGU := hide hgu
  rw [← hgu] at hown3 hb3 hxl hrl ⊢
  clear hU0 hg3 hgu
  go_loopw [44] (fun iv wr => ∃ i : Nat, iv = .int .i64 i ∧ i ≤ n ∧ Own wr gu 4 (some ⟨gu, 0, none⟩) nr (usedAt nr F i) ∧ Below gu w2 wr) (fun iv _ => n - (intOf iv).toNat)
  case atStart => exact ⟨0, rfl, by omega, hown3, hb3⟩
  case round =>
    obtain ⟨i, rfl, hi, hown, hb⟩ := hrel
    have hbe : Below w2.heap.size w2 wr := by rw [← HGU.out]; exact hb
    have hzr := hb.size
    by_cases hlt : i < n
    · obtain ⟨b1, off1, x, rfl, hx, x0, x1, x2, x3, x4⟩ := hat2.getOp hbe (by rw [← HN.out]; exact hlt)
      obtain ⟨_, _, y, ha9, hy, y0, y1, y2, y3, y4⟩ := hat2.getOp (Below.refl _ _) (k := i) (by rw [← HN.out]; exact hlt)
      cases ha9
      obtain rfl : x = y := by have := hx.out.symm.trans hy.out; simpa using this
      have hb1w : b1 < w2.heap.size := World.block_lt_of_cell? _ _ y0
      have hguw : gu < wr.heap.size := (hown.blk gu rfl).2
      have HA := hide (asked_calls b1 (off1 + i * 5) x wr x0 x1 x2 x3 x4)
      have HUS := hide (usedAt_succ nr F i x hx.out)
      have HV := hide (HVAL.out x (List.mem_of_getElem? hx.out))
      obtain ⟨U, hU⟩ : ∃ U, usedAt nr F i = U := ⟨_, rfl⟩
      have hUl : U.length = nr := by rw [← hU, usedAt_length]
      rw [hU] at HUS hown
      have HUL := hide hUl
      obtain ⟨P, hP⟩ : ∃ P, askP b1 (off1 + i * 5) x = P := ⟨_, rfl⟩
      rw [hP] at HA
      have HPP := hide (show P = (askF x).map (fun f => (⟨b1, off1 + i * 5 + f, none⟩ : Addr)) by rw [← hP]; exact askP_map _ _ _)
      have hi0 : (0 : Int) ≤ (i : Int) := by omega
      have hi1 : (i : Int) < (n : Int) := by omega
      clear hx hy x0 x1 x2 x3 x4 hU hUl hP
      go_wp2_with (go_at_call 99; go_must ((with_reducible refine (HA.out).mono ?_); rintro e w5 ⟨ap, cp, pn, rfl, hpn, hown5, hb5⟩; have HPN := hide hpn; have hpn3 : pn ≤ 3 := (by rw [hpn, HPP.out, List.length_map]; exact askF_le x); clear hpn))
      have hownU := hown.belowN hb5
      have hb5g := hb.trans (hb5.mono (Nat.le_of_lt hguw))
      obtain ⟨wo, rfl⟩ : ∃ wo : World, wo = wr := ⟨_, rfl⟩
      go_loopw [52] (fun jv wr => ∃ j : Nat, jv = .int .i64 j ∧ j ≤ pn ∧ Own wr gu 4 (some ⟨gu, 0, none⟩) nr (markU U ((valsO x).take j)) ∧ Own wr wo.heap.size 156 ap cp P ∧ Below gu w2 wr) (fun jv _ => pn - (intOf jv).toNat)
      case atStart => exact ⟨0, rfl, by omega, hownU, hown5, hb5g⟩
      case round =>
        obtain ⟨j, rfl, hj, hownj, hptj, hbj⟩ := hrel
        by_cases hjl : j < pn
        · have hjF : j < (askF x).length := by rw [← List.length_map, ← HPP.out, ← HPN.out]; exact hjl
          obtain ⟨fl, hfl⟩ : ∃ fl, (askF x)[j]? = some fl := ⟨_, List.getElem?_eq_getElem hjF⟩
          have hPj : P[j]? = some ⟨b1, off1 + i * 5 + fl, none⟩ := by rw [HPP.out, List.getElem?_map, hfl]; rfl
          have hVj : (valsO x)[j]? = some (fldO x fl) := by unfold valsO; rw [List.getElem?_map, hfl]; rfl
          obtain ⟨bp, op, rfl, t0⟩ := hptj.at_.getPt (Below.refl _ _) hPj
          have hbje : Below w2.heap.size w2 wr := by rw [← HGU.out]; exact hbj
          have z0 := ((bcell hbje).1 b1 (off1 + i * 5 + fl) hb1w).trans (fld_cell y1 y2 y3 (askF_123 hfl))
          obtain ⟨v, hv⟩ : ∃ v : Nat, fldO x fl = (v : Int) := ⟨(fldO x fl).toNat, by have := HV.out _ (List.mem_of_getElem? hVj); omega⟩
          have hvn : v < nr := by have := HV.out _ (List.mem_of_getElem? hVj); omega
          rw [hv] at z0 hVj
          have HM := hide (show markU U ((valsO x).take (j + 1)) = (markU U ((valsO x).take j)).set v true by rw [List.take_add_one, hVj]; simp only [Option.toList]; rw [markU_snoc]; rfl)
          obtain ⟨y9, v9, _, _, hc9⟩ := hownj.cell1 (i := v) (by rw [markU_length, HUL.out]; exact hvn) rfl
          have f9 := hownj.frozen v
          have hv0 : (0 : Int) ≤ (v : Int) := by omega
          have hv1 : (v : Int) < (nr : Int) := by omega
          have hownN := hownj.set1 v true (.bool true) rfl
          rw [← HM.out] at hownN
          have hptN := hptj.farLt (p := ⟨gu, v, none⟩) hguw (.bool true)
          have hbN := hbj.setCell (p := ⟨gu, v, none⟩) (Nat.le_refl _) (.bool true)
          clear hPj hVj hfl hv hjF
          go_wp2
          go_roundw
          case rel => exact ⟨j + 1, by go_num, by omega, hownN, hptN, hbN⟩
          case measure => simp [intOf]; omega
        · obtain rfl : j = pn := by omega
          have hE9 : markU U ((valsO x).take j) = usedAt nr F (i + 1) := by
            rw [HUS.out, List.take_of_length_le]
            unfold valsO
            rw [List.length_map, HPN.out, HPP.out, List.length_map]
            exact Nat.le_refl _
          rw [hE9] at hownj
          clear hE9
          go_wp2
          go_roundw
          case rel => exact ⟨i + 1, by go_num, by omega, hownj, hbj⟩
          case measure => simp [intOf]; omega
    · obtain rfl : n = i := by omega
      have HUG := hide (fun (k : Nat) (hk : k < nr) => show (usedAt nr F n)[k]? = some (askedB F (k : Int)) by
        rw [HN.out]
        exact usedAt_get nr F (fun v hv => by
          obtain ⟨x, hx, hv⟩ := List.mem_flatMap.1 hv
          exact (HVAL.out x hx v hv).1) k hk)
      have hX3 := hX2.belowN hbe
      have hR3 := hR2.belowN hbe
      have hU3 := hown.at_
      have hops3 := hown2.belowN hbe
      have hB3 := hB2.trans (hbe.mono hB2.size)
      have hgu3 : gu < wr.heap.size := (hown.blk gu rfl).2
      obtain ⟨u0, u1, u2, u3⟩ := hX3.c2
      obtain ⟨W3, rfl⟩ : ∃ W3 : World, W3 = wr := ⟨_, rfl⟩
      have hz3 : w.heap.size ≤ W3.heap.size := hB3.size
      have hxl3 := hX3.lt
      go_wp2
      go_loopw [13, 66] (fun wv kv wr => ∃ (k m : Nat) (aw : Option Addr) (cw : Nat) (D : DataW Unit), kv = .int .i64 k ∧ k ≤ nr ∧ wv = .slice aw m cw ∧ m ≤ k ∧ Hid (m = (wasL kp F k).length) ∧ Own wr W3.heap.size 3 aw cw (wasL kp F k) ∧ aw.map (·.block) ≠ some W3.heap.size ∧ wr.ownsMap Try.prog 3 (plainElem Try.prog 3) W3.heap.size k D ∧ Hid (NumD D (wasL kp F k)) ∧ Below W3.heap.size W3 wr) (fun _ kv _ => nr - (intOf kv).toNat)
      case atStart => exact ⟨0, 0, none, 0, .map [], rfl, by omega, rfl, by omega, rfl, Own.none _ _ _, by simp, World.ownsMap_made _ _ _ _, numD_nil, Below.alloc (Below.refl _ _) (Nat.le_refl _) _⟩
      case round =>
        obtain ⟨k, m, aw, cw, D, rfl, hk, rfl, hmk, hm, hownw, hne, hmap, hD, hb4⟩ := hrel
        have hz4 := hb4.size
        by_cases hkl : k < nr
        · have HWS := hide (wasL_succ kp F k)
          have HKW := hide (show keyOf Try.prog 3 (Value.int .i64 (k : Int)) = some (Lit.int .i64 (k : Int)) from keyOf_int_mk Try.underlying3 (WalkArith.wf_i64 ⟨by omega, by omega⟩))
          have HWM := hide (show (Lit.int .i64 (m : Int)).wf = true from WalkArith.wf_i64 ⟨by omega, by omega⟩)
          by_cases hkk : k < kp
          · have hst : (decide ((k : Int) < (kp : Int)) || askedB F (k : Int)) = true := by rw [show decide ((k : Int) < (kp : Int)) = true from decide_eq_true (by omega)]; rfl
            have hkk1 : (k : Int) < (kp : Int) := by omega
            have HWN := hide (show wasL kp F (k + 1) = wasL kp F k ++ [(k : Int)] by rw [HWS.out, if_pos hst])
            have HDN := hide (numD_put hD.out (v := (k : Int)) (fun h => by have := wasL_lt kp F k _ h; omega) hm.out)
            have hgm := hmap.lt
            clear hst
            go_wp2_with (first
              | (at_mapUpdate; go_must (refine wpList_mapUpdate_own _ rfl _ _ _ 157 rfl 3 3 lawI Try.underlying157 _ W3.heap.size k D rfl hmap (by unfold maxLen; omega) _ _ _ rfl rfl HKW.out _ [] (plainElem_int Try.underlying3 HWM.out) ?_; intro w5 hmap5 hg5; have hown5 := hownw.grown hg5 (.inr hne); have hb5 := Below.grown hb4 hg5 hz4 (fun q hq => by injection hq with hq; omega); have hz5 := hb5.size))
              | (at_builtin; go_must (refine wpList_push tyI hown5 (k : Int) rfl rfl rfl rfl rfl (by simp) hm.out hz5 (by omega) ?_; intro a6 c6 w6 hown6 hg6 hcs6; have hmap6 := hmap5.kept hg6 (fun e => hne e.symm); have hb6 := below_push hb5 hown5 hg6 hz5; have hne6 := ne_of_push hcs6 hne hmap5.lt)))
            go_roundw
            case rel => exact ⟨k + 1, m + 1, a6, c6, _, by go_num, by omega, rfl, by omega, by show _ = _; rw [HWN.out]; simp [hm.out], by rw [HWN.out]; exact hown6, hne6, hmap6, by rw [HWN.out]; exact HDN.out, hb6⟩
            case measure => simp [intOf]; omega
          have hkk2 : decide ((k : Int) < (kp : Int)) = false := decide_eq_false (by omega)
          have hkk3 : decide (k < kp) = false := decide_eq_false (by omega)
          have hkk4 : kp ≤ k := by omega
          obtain ⟨bu, ou, hbu, t0⟩ := getB_eq hU3 hb4 (HUG.out k hkl)
          cases hbu
          rw [Nat.zero_add] at t0
          have hk0 : (0 : Int) ≤ (k : Int) := by omega
          have hk1 : (k : Int) < (nr : Int) := by omega
          rw [hkk2, Bool.false_or] at HWS
          obtain ⟨u, hu⟩ : ∃ u, askedB F (k : Int) = u := ⟨_, rfl⟩
          rw [hu] at t0 HWS
          cases u with
          | true =>
            have hst : (true : Bool) = true := rfl
            clear hu hkk
            have HWN := hide (show wasL kp F (k + 1) = wasL kp F k ++ [(k : Int)] by rw [HWS.out, if_pos hst])
            have HDN := hide (numD_put hD.out (v := (k : Int)) (fun h => by have := wasL_lt kp F k _ h; omega) hm.out)
            have hgm := hmap.lt
            clear hst
            go_wp2_with (first
              | (at_mapUpdate; go_must (refine wpList_mapUpdate_own _ rfl _ _ _ 157 rfl 3 3 lawI Try.underlying157 _ W3.heap.size k D rfl hmap (by unfold maxLen; omega) _ _ _ rfl rfl HKW.out _ [] (plainElem_int Try.underlying3 HWM.out) ?_; intro w5 hmap5 hg5; have hown5 := hownw.grown hg5 (.inr hne); have hb5 := Below.grown hb4 hg5 hz4 (fun q hq => by injection hq with hq; omega); have hz5 := hb5.size))
              | (at_builtin; go_must (refine wpList_push tyI hown5 (k : Int) rfl rfl rfl rfl rfl (by simp) hm.out hz5 (by omega) ?_; intro a6 c6 w6 hown6 hg6 hcs6; have hmap6 := hmap5.kept hg6 (fun e => hne e.symm); have hb6 := below_push hb5 hown5 hg6 hz5; have hne6 := ne_of_push hcs6 hne hmap5.lt)))
            go_roundw
            case rel => exact ⟨k + 1, m + 1, a6, c6, _, by go_num, by omega, rfl, by omega, by show _ = _; rw [HWN.out]; simp [hm.out], by rw [HWN.out]; exact hown6, hne6, hmap6, by rw [HWN.out]; exact HDN.out, hb6⟩
            case measure => simp [intOf]; omega
          | false =>
            have HWN := hide (show wasL kp F (k + 1) = wasL kp F k by rw [HWS.out, if_neg (by decide)])
            clear hu hkk
            go_wp2
            go_roundw
            case rel => exact ⟨k + 1, m, aw, cw, D, by go_num, by omega, rfl, by omega, by show _ = _; rw [HWN.out]; exact hm.out, by rw [HWN.out]; exact hownw, hne, hmap.mono (Nat.le_succ k), by rw [HWN.out]; exact hD.out, hb4⟩
            case measure => simp [intOf]; omega
        · obtain rfl : nr = k := by omega
          have hwl := wasL_length kp F nr
          obtain ⟨Wl, hWl⟩ : ∃ Wl, wasL kp F nr = Wl := ⟨_, rfl⟩
          rw [hWl] at hm hownw hD hwl ⊢
          have hops4 := hops3.belowN hb4
          have hX4 := hX3.belowN hb4
          have hR4 := hR3.belowN hb4
          have hB4 := hB3.trans (hb4.mono hz3)
          have hz9 := hB4.size
          have hgo9 : ∀ q, ao.map (·.block) = some q → w1.heap.size ≤ q ∧ q < W3.heap.size := fun q e => by have h1 := hops3.blk q e; exact h1
          have hw1 : w.heap.size + 1 < w1.heap.size := by have := hb1.size; simp at this; omega
          have HGO := hide hgo9
          have hxl9 : w.heap.size + 1 < W3.heap.size := hR3.lt
          have hm64 : m ≤ 64 := by omega
          have HMW := hide hm.out
          have hX0 : (F.take 0).map (packO Wl) ++ F.drop 0 = F := by simp
          rw [← hX0] at hops4
          obtain ⟨W4, rfl⟩ : ∃ W4 : World, W4 = wr := ⟨_, rfl⟩
          have hgmW := hmap.lt
          have HWL := hide hWl
          clear hWl hX0 hgo9 hm
          go_wp2
          go_loopw [89] (fun iv wr => ∃ i : Nat, iv = .int .i64 i ∧ i ≤ n ∧ Own wr w1.heap.size 99 ao co ((F.take i).map (packO Wl) ++ F.drop i) ∧ Turned (ao.map (·.block)).toList W4 wr) (fun iv _ => n - (intOf iv).toNat)
          case atStart => exact ⟨0, rfl, by omega, hops4, Turned.refl _ _⟩
          case round =>
            obtain ⟨i, rfl, hi, hownX, hT⟩ := hrel
            have hzT := hT.size
            by_cases hlt : i < n
            · obtain ⟨x, hx⟩ : ∃ x, F[i]? = some x := ⟨_, List.getElem?_eq_getElem (by rw [← HN.out]; exact hlt)⟩
              have hXi := part_get (p := packO Wl) hx
              obtain ⟨go, rfl, hgo1, hgo2⟩ := hownX.some_ (by rintro e; rw [e] at hXi; cases hXi)
              obtain ⟨_, _, ha9, x0, x1, x2, x3, x4⟩ := getOp_eq hownX.at_ (Below.refl _ _) hXi
              cases ha9
              rw [Nat.zero_add] at x0 x1 x2 x3 x4
              have HA := hide (asked_calls go (i * 5) x wr x0 x1 x2 x3 x4)
              have HV := hide (HVAL.out x (List.mem_of_getElem? hx))
              have HXS := hide (part_succ (p := packO Wl) hx)
              obtain ⟨hgoa, hgob⟩ := HGO.out go rfl
              obtain ⟨P, hP⟩ : ∃ P, askP go (i * 5) x = P := ⟨_, rfl⟩
              rw [hP] at HA
              have HPP := hide (show P = (askF x).map (fun f => (⟨go, i * 5 + f, none⟩ : Addr)) by rw [← hP]; exact askP_map _ _ _)
              have hi0 : (0 : Int) ≤ (i : Int) := by omega
              have hi1 : (i : Int) < (n : Int) := by omega
              have hX0 : ((F.take i).map (packO Wl) ++ F.drop i).set i (packJ Wl x 0) = (F.take i).map (packO Wl) ++ F.drop i := by
                rw [packJ_zero]
                obtain ⟨hi9, e9⟩ := List.getElem?_eq_some_iff.1 hXi
                rw [← e9, List.set_getElem_self]
              have hXl : i < ((F.take i).map (packO Wl) ++ F.drop i).length := (List.getElem?_eq_some_iff.1 hXi).1
              obtain ⟨X, hXe⟩ : ∃ X, (F.take i).map (packO Wl) ++ F.drop i = X := ⟨_, rfl⟩
              rw [hXe] at HXS hX0 hXl hownX
              have HXL := hide hXl
              clear hx hXi x0 x1 x2 x3 x4 hP hXe hXl
              go_wp2_with (go_at_call 99; go_must ((with_reducible refine (HA.out).mono ?_); rintro e w5 ⟨ap, cp, pn, rfl, hpn, hown5, hb5⟩; have HPN := hide hpn; have hpn3 : pn ≤ 3 := (by rw [hpn, HPP.out, List.length_map]; exact askF_le x); clear hpn))
              have hownX5 := hownX.belowN hb5
              have hT5 : Turned [go] W4 w5 := hT.trans (Turned.ofBelow (F := [go]) hb5) (fun q hq => .inl hq)
              rw [← hX0] at hownX5
              obtain ⟨wo, rfl⟩ : ∃ wo : World, wo = wr := ⟨_, rfl⟩
              clear hX0
              go_loopw [97] (fun jv wr => ∃ j : Nat, jv = .int .i64 j ∧ j ≤ pn ∧ Own wr w1.heap.size 99 (some ⟨go, 0, none⟩) co (X.set i (packJ Wl x j)) ∧ Own wr wo.heap.size 156 ap cp P ∧ Turned [go] W4 wr) (fun jv _ => pn - (intOf jv).toNat)
              case atStart => exact ⟨0, rfl, by omega, hownX5, hown5, hT5⟩
              case round =>
                obtain ⟨j, rfl, hj, hownj, hptj, hTj⟩ := hrel
                by_cases hjl : j < pn
                · have hjF : j < (askF x).length := by rw [← List.length_map, ← HPP.out, ← HPN.out]; exact hjl
                  obtain ⟨fl, hfl⟩ : ∃ fl, (askF x)[j]? = some fl := ⟨_, List.getElem?_eq_getElem hjF⟩
                  have hPj : P[j]? = some ⟨go, i * 5 + fl, none⟩ := by rw [HPP.out, List.getElem?_map, hfl]; rfl
                  obtain ⟨bp, op, rfl, t0⟩ := hptj.at_.getPt (Below.refl _ _) hPj
                  have hYi : (X.set i (packJ Wl x j))[i]? = some (packJ Wl x j) := by rw [List.getElem?_set, if_pos rfl, if_pos HXL.out]
                  obtain ⟨_, _, ha9, y0, y1, y2, y3, y4⟩ := getOp_eq hownj.at_ (Below.refl _ _) hYi
                  cases ha9
                  rw [Nat.zero_add] at y1 y2 y3
                  have z0 := fld_cell y1 y2 y3 (askF_123 hfl)
                  have f0 := hownj.frozen (i * 5 + fl)
                  rw [packJ_fld Wl x j fl hfl] at z0
                  have hrng := HV.out (fldO x fl) (by unfold valsO; exact List.mem_map.2 ⟨fl, List.mem_of_getElem? hfl, rfl⟩)
                  have hPS := packJ_succ Wl x j fl hfl
                  rw [packJ_fld Wl x j fl hfl] at hPS
                  obtain ⟨v, hv⟩ : ∃ v, fldO x fl = v := ⟨_, rfl⟩
                  rw [hv] at z0 hrng hPS
                  have hset := hownj.setAt i fl (setO (packJ Wl x j) fl (plc Wl v)) (packJ Wl x j) (.int .i64 (plc Wl v)) hYi (setO_enc (y := packJ Wl x j) (askF_123 hfl) (plc Wl v)).1 (setO_enc (y := packJ Wl x j) (askF_123 hfl) (plc Wl v)).2
                  rw [← hPS, List.set_set] at hset
                  have hset' : Own (wr.setCell ⟨go, i * 5 + fl, none⟩ (.int .i64 (plc Wl v))) w1.heap.size 99 (some ⟨go, 0, none⟩) co (X.set i (packJ Wl x (j + 1))) := hset
                  have hptN := hptj.farLt (p := ⟨go, i * 5 + fl, none⟩) hgo2 (.int .i64 (plc Wl v))
                  have hTN : Turned [go] W4 (wr.setCell ⟨go, i * 5 + fl, none⟩ (.int .i64 (plc Wl v))) := hTj.trans (Turned.ofGrown (F := [go]) (grown_setCell _ _ _ _) (fun q hq => .inl (by injection hq with hq; simp [hq]))) (fun q hq => .inl hq)
                  have hmapj := ownsMap_turned hmap hTj (by simp; omega)
                  have HKV := hide (show keyOf Try.prog 3 (Value.int .i64 v) = some (Lit.int .i64 v) from keyOf_int_mk Try.underlying3 (WalkArith.wf_i64 ⟨by omega, by omega⟩))
                  have HDv := hide (hD.out.2 v)
                  clear hPj hYi hfl hv hjF hPS hset
                  go_wp2_with (at_lookup; go_must (refine wpList_lookup_own_int _ rfl _ _ 157 rfl 3 3 .i64 lawI Try.underlying157 Try.underlying3 (zeroI _) W3.heap.size nr D rfl hmapj _ _ rfl HKV.out ?_; intro cc hat hwc; obtain rfl : cc = plc Wl v := (by have h9 := hat.symm.trans HDv.out; injection h9 with h9; injection h9); clear hat hwc))
                  go_roundw
                  case rel => exact ⟨j + 1, by go_num, by omega, hset', hptN, hTN⟩
                  case measure => simp [intOf]; omega
                · obtain rfl : pn = j := by omega
                  have hE9 : packJ Wl x pn = packO Wl x := by unfold packO; rw [HPN.out, HPP.out, List.length_map]
                  rw [hE9, HXS.out] at hownj
                  clear hE9
                  go_wp2
                  go_roundw
                  case rel => exact ⟨i + 1, by go_num, by omega, hownj, hTj⟩
                  case measure => simp [intOf]; omega
            · obtain rfl : n = i := by omega
              have hE9 : (F.take n).map (packO Wl) ++ F.drop n = F.map (packO Wl) := by rw [HN.out, List.take_length, List.drop_length, List.append_nil]
              rw [hE9] at hownX
              have hFS : ∀ q ∈ (ao.map (·.block)).toList, w1.heap.size ≤ q ∧ q < W3.heap.size := fun q hq => HGO.out q (by simpa using hq)
              have hRe : Blk wr (w.heap.size + 1) 24 #[.int .i64 0, .slice none 0 0] := (hT.block _ hR4.lt (fun hq => by have := (hFS _ hq).1; omega)).trans hR4
              have hWe : Own wr W3.heap.size 3 aw cw Wl := hownw.turned hT (fun q hq hm => by have h1 := (hownw.blk q hq).1; have h2 := (hFS _ hm).2; omega)
              have hBe := below_turned hB4 hT (fun q hq => by have := (hFS _ hq).1; omega) hz9
              obtain ⟨s0, s1, s2, s3⟩ := hRe.c2
              have hcn : n = (F.map (packO Wl)).length := by rw [List.length_map, HN.out]
              have HCN := hide hcn
              clear hE9 hFS hcn
              go_wp2
              try simp only [Exit.then, Exit.inBlock]
              try rw [Exit.noGoto_ret]
              have hF6 := (hRe.set_ 0 (.int .i64 (m : Int))).set_ 1 (.slice ao n co)
              refine bodyPost_ret (results_row_tmp2 rfl _ _ (w.heap.size + 1) _ #[.int .i64 (m : Int), .slice ao n co] (0, 0) _ rfl hF6 Try.underlying24 rfl (by kernel_rfl)) rfl ?_
              rw [HWL.out]
              exact ⟨ao, co, n, aw, cw, m, rfl, HCN.out, HMW.out, ((hownX.farLt (p := ⟨w.heap.size + 1, 0, none⟩) hw1 _).farLt (p := ⟨w.heap.size + 1, 1, none⟩) hw1 _).mono (show w.heap.size ≤ w1.heap.size by omega), ((hWe.farLt (p := ⟨w.heap.size + 1, 0, none⟩) hxl9 _).farLt (p := ⟨w.heap.size + 1, 1, none⟩) hxl9 _).mono hz3, ((hBe.setCell (p := ⟨w.heap.size + 1, 0, none⟩) (Nat.le_succ _) _).setCell (p := ⟨w.heap.size + 1, 1, none⟩) (Nat.le_succ _) _)⟩
theorem Pack_calls (regs : Int) (a : Option Addr) (c ln : Nat) (l : List OpD) (hln : ln = l.length) (keep : Int) (w : World) (h : At w a l) (hl : ln ≤ 1000000) (E : Int) (W : List Int) (L : List OpD) (hE : packE regs l keep = E) (hW : packW regs l keep = W) (hL : packL regs l keep = L) :
    Calls Try.prog 51 #[.agg #[.int .i64 regs, .slice a ln c], .int .i64 keep] w (PackOut E W L w) := by
  unfold packW at hW
  unfold packL at hL
  rw [hE] at hW hL
  by_cases hE0 : E = 0
  · rw [if_pos hE0] at hW hL
    subst hE0 hW hL
    obtain ⟨f, rfl, g, h1, h2⟩ := packE_good hE
    exact pack_good regs a c ln f hln keep g h1 h2 w h
  · rw [if_neg hE0] at hW hL
    subst hW hL
    exact pack_bad regs a c ln l hln keep w h hl E hE hE0
end Go.Proofs.Ythncfoompoheoaa
