/- ref03.Make. -/
import Derived.Test.YtcamcnahkdiefaaPm
namespace Go.Proofs.Ytcamcnahkdiefaa
set_option linter.unusedVariables false
set_option linter.unusedSimpArgs false
open Go.RowKit
theorem results_rowP {P : Program} {fn : Func} {p u : Tmp} {ty : TypeId} (h : fn.results = #[.cell p ty, .tmp u]) (tmps : Array Value) (w : World) (g : Nat) (t : TypeId) (cs : Array Value) (fr : Nat × Nat) (d : TypeDesc)
    (hp : tmps.getD p undef = .pointer (some ⟨g, 0, none⟩)) (hg : w.heap[g]? = some (.cells cs t fr)) (hu : P.underlying ty = some d) (hd : (match d with | .struct _ | .array _ _ => true | _ => false) = true) (hi : (P.info? ty).map (·.size) = some cs.size) :
    (results fn tmps).run P w = .ok (.tuple #[.agg cs, tmps.getD u undef]) w := by
  have h0 : (results fn tmps).run P w =
      ((asAddr (tmps.getD p undef)).run P w).andThen fun a w₁ => ((loadVar ty a).run P w₁).andThen fun z w₂ => .ok (.tuple #[z, tmps.getD u undef]) w₂ := by
    simp only [results, h]
    simp [Sem.run_bind, Result.andThen]
  rw [h0, hp]
  simp [asAddr, run_loadVar_row w g t ty cs fr d hg hu hd hi, Result.andThen]
/-- a polynomial and an error -/
def PolyOut (V : Int) (L : List Tm) (E : Int) (w : World) (e : Ending) (w' : World) : Prop :=
  ∃ a n c, e = .returned (.tuple #[.agg #[.int .i64 V, .slice a n c], .int .i64 E]) ∧ TOut (fun q => w.heap.size ≤ q) w' a n c L ∧ Below w.heap.size w w'
theorem PolyOut.bad (E : Int) (w w' : World) (hb : Below w.heap.size w w') : PolyOut 0 [] E w (.returned (.tuple #[.agg #[.int .i64 0, .slice none 0 0], .int .i64 E])) w' := ⟨none, 0, 0, rfl, TOut.nil _ _, hb⟩
def rightL (vars : Int) (l : List Tm) : Bool := l.all fun t => rightT vars t.2
def mkE (vars : Int) (l : List Tm) : Int := if vars < 0 ∨ 64 < vars then 2 else if rightL vars l = false then 2 else if 4096 < (sortT l).length then 20 else 0
def mkV (vars : Int) (l : List Tm) : Int := if mkE vars l = 0 then vars else 0
def mkL (vars : Int) (l : List Tm) : List Tm := if mkE vars l = 0 then sortT l else []
theorem mkE_bad {vars : Int} (h : vars < 0 ∨ 64 < vars) (l : List Tm) : mkE vars l = 2 := by unfold mkE; rw [if_pos h]
theorem mk_bad {vars : Int} (h : vars < 0 ∨ 64 < vars) (l : List Tm) : mkE vars l = 2 ∧ mkV vars l = 0 ∧ mkL vars l = [] := by
  have e := mkE_bad h l
  exact ⟨e, by unfold mkV; rw [e]; rfl, by unfold mkL; rw [e]; rfl⟩
theorem rightL_step {vars : Int} {l : List Tm} {k : Nat} {t : Tm} (h : l[k]? = some t) : rightL vars (l.drop k) = (rightT vars t.2 && rightL vars (l.drop (k + 1))) := by
  rw [drop_at h]; rfl
theorem rightL_len {vars : Int} {l : List Tm} (h : rightL vars l = true) : LenT vars.toNat l := fun t ht => by
  have := List.all_eq_true.1 h t ht
  have := rightT_len this
  omega
set_option maxRecDepth 100000 in
set_option maxHeartbeats 6400000 in
theorem RMake_calls (P : Nat → Prop) (vars : Int) (a : Option Addr) (n c : Nat) (ts : List Tm) (w : World) (h : TOut P w a n c ts) (hl : n ≤ 100000000) (hll : ∀ t ∈ ts, t.2.length ≤ 1000000) (V : Int) (L : List Tm) (E : Int) (hV : mkV vars ts = V) (hL : mkL vars ts = L) (hE : mkE vars ts = E) :
    Calls Try.prog 16 #[.int .i64 vars, .slice a n c] w (PolyOut V L E w) := by
  unfold mkV at hV
  unfold mkL at hL
  rw [hE] at hV hL
  unfold mkE at hE
  have hb0 := below_box w (.cells #[.int .i64 0, .slice none 0 0] 24)
  have hX := Blk.new w 24 #[.int .i64 0, .slice none 0 0]
  by_cases hv : vars < 0 ∨ 64 < vars
  case pos =>
    rw [if_pos hv] at hE
    subst hE
    rw [if_neg (by decide)] at hV hL
    subst hV hL
    by_cases h1 : vars < 0
    · go_enter Try.func16, Try.ntmps16
      go_wp2
      refine bodyPost_ret (results_rowP rfl _ _ (w.heap.size) _ #[.int .i64 0, .slice none 0 0] (0, 0) _ rfl hX Try.underlying24 rfl (by kernel_rfl)) rfl ?_
      exact PolyOut.bad _ _ _ hb0
    · have h2 : 64 < vars := by omega
      go_enter Try.func16, Try.ntmps16
      go_wp2
      refine bodyPost_ret (results_rowP rfl _ _ (w.heap.size) _ #[.int .i64 0, .slice none 0 0] (0, 0) _ rfl hX Try.underlying24 rfl (by kernel_rfl)) rfl ?_
      exact PolyOut.bad _ _ _ hb0
  case neg =>
    rw [if_neg hv] at hE
    have h1 : ¬ vars < 0 := by omega
    have h2 : ¬ 64 < vars := by omega
    have HN := hide h.len
    have HE := hide hE
    have HLL := hide hll
    obtain ⟨Q, hQ⟩ : ∃ Q, rightL vars ts = Q := ⟨_, rfl⟩
    have HQ : Hid (rightL vars (ts.drop 0) = Q) := hQ
    have hat := h.at_.belowN hb0
    have hTO := h.belowN hb0
    clear hE hll hv
    go_enter Try.func16, Try.ntmps16
    go_wp2
    go_loopw [6] (fun iv wr => ∃ k : Nat, iv = .int .i64 k ∧ k ≤ n ∧ Hid (rightL vars (ts.drop k) = Q) ∧ wr = w.alloc (.cells #[.int .i64 0, .slice none 0 0] 24)) (fun iv _ => n - (intOf iv).toNat)
    case atStart => exact ⟨0, rfl, by omega, HQ.out, rfl⟩
    case round =>
      obtain ⟨k, rfl, hk, hQk, rfl⟩ := hrel
      by_cases hlt : k < n
      · obtain ⟨b1, off1, t, ea, en, ec, rfl, ht, t0, t1, hrow, hfar⟩ := hat.getF (Below.refl _ _) (k := k) (by rw [← HN.out]; exact hlt)
        have hQ2 := hQk.out
        rw [rightL_step ht.out] at hQ2
        have hk0 : (0 : Int) ≤ (k : Int) := by omega
        have hk1 : (k : Int) < (n : Int) := by omega
        have hen : en ≤ 1000000 := by
          have e1 : en = t.2.length := hrow.out.2.1
          rw [e1]; exact HLL.out t (List.mem_of_getElem? ht.out)
        obtain ⟨R, hR⟩ : ∃ R, rightT vars t.2 = R := ⟨_, rfl⟩
        have HR := hide (RRight_calls vars ea en ec t.2 hrow.out.2.1 _ hrow.out.2.2.2.2 hen R hR)
        rw [hR] at hQ2
        clear ht hR
        cases R with
        | false =>
          have hQF : Q = false := by rw [← hQ2]; rfl
          subst hQF
          have hE2 := HE.out
          rw [if_pos hQ] at hE2
          subst hE2
          rw [if_neg (by decide)] at hV hL
          subst hV hL
          clear hQ2 hQ
          go_wp2_with (go_at_call 41; go_must ((with_reducible refine (HR.out).mono ?_); rintro v w1 ⟨rfl, rfl⟩))
          refine bodyPost_ret (results_rowP rfl _ _ (w.heap.size) _ #[.int .i64 0, .slice none 0 0] (0, 0) _ rfl hX Try.underlying24 rfl (by kernel_rfl)) rfl ?_
          exact PolyOut.bad _ _ _ hb0
        | true =>
          rw [Bool.true_and] at hQ2
          have HQ2 := hide hQ2
          clear hQ2
          go_wp2_with (go_at_call 41; go_must ((with_reducible refine (HR.out).mono ?_); rintro v w1 ⟨rfl, rfl⟩))
          go_roundw
          case rel => exact ⟨k + 1, by go_num, by omega, HQ2.out, by first | rfl | trivial⟩
          case measure => simp [intOf]; omega
      · obtain rfl : k = n := by omega
        have hQ2 := hQk.out
        rw [List.drop_eq_nil_of_le (by rw [← HN.out]; exact Nat.le_refl _)] at hQ2
        have hQT : Q = true := by rw [← hQ2]; rfl
        subst hQT
        have hE2 := HE.out
        rw [if_neg (by rw [hQ]; decide)] at hE2
        obtain ⟨M, hM⟩ : ∃ M, sortT ts = M := ⟨_, rfl⟩
        have HS := hide (RSorted_calls vars.toNat (by omega) k P a c ts _ hTO hl (rightL_len hQ) M hM)
        rw [hM] at hE2 hL
        clear hQ2 hQ hM
        by_cases hml : 4096 < M.length
        · rw [if_pos hml] at hE2
          subst hE2
          rw [if_neg (by decide)] at hV hL
          subst hV hL
          go_wp2_with (go_at_call 42; go_must ((with_reducible refine (HS.out).mono ?_); rintro v w2 ⟨a2, n2, c2, rfl, hT2, hb2⟩; have hn2 : (4096 : Int) < (n2 : Int) := (by have := hT2.len; omega); have hX2 := hX.belowN hb2; obtain ⟨x0, x1, x2, x3⟩ := hX2.c2; have hX3 := hX2.alloc (.cells #[.int .i64 vars, .slice a2 n2 c2] 24); obtain ⟨y0, y1, y2, y3⟩ := hX3.c2; have hlx := hX2.lt))
          have hF6 := ((hX2.set_ 0 (.int .i64 0)).set_ 1 (.slice none 0 0)).alloc (.cells #[.int .i64 vars, .slice a2 n2 c2] 24)
          refine bodyPost_ret (results_rowP rfl _ _ (w.heap.size) _ #[.int .i64 0, .slice none 0 0] (0, 0) _ rfl hF6 Try.underlying24 rfl (by kernel_rfl)) rfl ?_
          have hb3 := hb0.trans (hb2.mono hb0.size)
          have hb4 := ((hb3.setCell (p := ⟨w.heap.size, 0, none⟩) (Nat.le_refl _) (.int .i64 0)).setCell (p := ⟨w.heap.size, 1, none⟩) (Nat.le_refl _) (.slice none 0 0))
          exact PolyOut.bad _ _ _ (hb4.alloc hb4.size _)
        · rw [if_neg hml] at hE2
          subst hE2
          rw [if_pos rfl] at hV hL
          subst hV hL
          go_wp2_with (go_at_call 42; go_must ((with_reducible refine (HS.out).mono ?_); rintro v w2 ⟨a2, n2, c2, rfl, hT2, hb2⟩; have hn2 : ¬ (4096 : Int) < (n2 : Int) := (by have := hT2.len; omega); have hX2 := hX.belowN hb2; obtain ⟨x0, x1, x2, x3⟩ := hX2.c2; have hX3 := hX2.alloc (.cells #[.int .i64 vars, .slice a2 n2 c2] 24); obtain ⟨y0, y1, y2, y3⟩ := hX3.c2; have hlx := hX2.lt))
          have hF6 := ((hX2.set_ 0 (.int .i64 vars)).set_ 1 (.slice a2 n2 c2)).alloc (.cells #[.int .i64 vars, .slice a2 n2 c2] 24)
          refine bodyPost_ret (results_rowP rfl _ _ (w.heap.size) _ #[.int .i64 vars, .slice a2 n2 c2] (0, 0) _ rfl hF6 Try.underlying24 rfl (by kernel_rfl)) rfl ?_
          have hb3 := hb0.trans (hb2.mono hb0.size)
          have hng : ¬ (w.alloc (.cells #[.int .i64 0, .slice none 0 0] 24)).heap.size ≤ w.heap.size := by rw [World.size_alloc]; omega
          have hb4 := ((hb3.setCell (p := ⟨w.heap.size, 0, none⟩) (Nat.le_refl _) (.int .i64 vars)).setCell (p := ⟨w.heap.size, 1, none⟩) (Nat.le_refl _) (.slice a2 n2 c2))
          refine ⟨a2, n2, c2, rfl, ((((hT2.setCell _ hng).setCell _ hng).belowN (below_box _ _)).imp fun q hq => ?_), hb4.alloc hb4.size _⟩
          rw [World.size_alloc] at hq; omega
end Go.Proofs.Ytcamcnahkdiefaa
