/- Chapter 17: tidy.Sift (what is not needed, left out). -/
import Derived.Test.YthncfoompoheoaaW17a
import Derived.Test.YthncfoompoheoaaRg2
namespace Go.Proofs.Ythncfoompoheoaa
set_option linter.unusedVariables false
set_option linter.unusedSimpArgs false
open Go.RowKit
def regsIf (E regs : Int) : Int := if E = 0 then regs else 0
noncomputable def siftL (regs : Int) (l : List OpD) (outs : List Int) : List OpD := if liveE regs l outs = 0 then staysF (flagF (liveO regs l outs)) 0 l else []
theorem liveO_length {regs : Int} {l : List OpD} {outs : List Int} (h : liveE regs l outs = 0) : (liveO regs l outs).length = l.length := by
  by_cases hc : checkS regs l = 0
  · obtain ⟨f, rfl, g⟩ := good_of_check hc
    by_cases hB : outsB regs outs = true
    · rw [(live_good g hB).2.1, look_ops_length]; rfl
    · have : liveE regs f.flat outs = 2 := by unfold liveE; rw [if_neg (by rw [hc]; simp), if_neg hB]
      omega
  · unfold liveE at h
    rw [if_pos hc] at h
    exact absurd h hc
/-- A program that is handed out. -/
def ProgOut (R E : Int) (L : List OpD) (w : World) (e : Ending) (w' : World) : Prop :=
  ∃ a' c' n, e = .returned (.tuple #[.agg #[.int .i64 R, .slice a' n c'], .int .i64 E]) ∧ n = L.length ∧ Own w' w.heap.size 99 a' c' L ∧ Below w.heap.size w w'
theorem Own.farLt {α : Type} [Flat α] {w : World} {B : Nat} {E : TypeId} {a : Option Addr} {c : Nat} {l : List α} (h : Own w B E a c l) {p : Addr} (hp : p.block < B) (u : Value) : Own (w.setCell p u) B E a c l :=
  h.far (fun e => by have := (h.blk _ e).1; omega) u
set_option maxRecDepth 100000 in
set_option maxHeartbeats 6400000 in
theorem Sift_calls (regs : Int) (a : Option Addr) (c ln : Nat) (l : List OpD) (hln : ln = l.length) (oa : Option Addr) (oc n : Nat) (outs : List Int) (hno : n = outs.length) (w : World) (h : At w a l) (hl : ln ≤ 1000000) (ho : At w oa outs) (hol : n ≤ 1000000) (E : Int) (L : List OpD) (hE : liveE regs l outs = E) (hL : siftL regs l outs = L) :
    Calls Try.prog 44 #[.agg #[.int .i64 regs, .slice a ln c], .slice oa n oc] w (ProgOut (regsIf E regs) E L w) := by
  have hb0 := (below_new12 w (.cells #[.int .i64 regs, .slice a ln c] 24)).alloc (by simp) (.cells #[.int .i64 0, .slice none 0 0] 24)
  have hX := (Blk.new w 24 #[.int .i64 regs, .slice a ln c]).alloc (.cells #[.int .i64 0, .slice none 0 0] 24)
  have hR := Blk.new (w.alloc (.cells #[.int .i64 regs, .slice a ln c] 24)) 24 #[.int .i64 0, .slice none 0 0]
  simp only [World.size_alloc] at hR
  have h1 := h.belowN hb0
  have ho1 := ho.belowN hb0
  obtain ⟨O, hO⟩ : ∃ O, liveO regs l outs = O := ⟨_, rfl⟩
  obtain ⟨on, hon⟩ : ∃ on, on = O.length := ⟨_, rfl⟩
  have HN := hide (NeededN regs a c ln l hln oa oc n outs hno _ O _ _ E on _ hon rfl hO rfl rfl hE h1 hl ho1 hol)
  have HLN := hide hln
  unfold siftL at hL
  rw [hE, hO] at hL
  by_cases hE0 : E = 0
  · rw [if_pos hE0] at hL
    subst hE0
    have hOL : on = ln := by rw [hon, ← hO, liveO_length hE, hln]
    have HST := hide (pickF_stays (flagF O) (fun k => ((O[k]?).getD false || ((l[k]?.map (fun x => decide (x.kind = 7) || decide (x.kind = 0))).getD false))) l 0 (fun k x hx => by rw [Nat.zero_add, hx]; rfl))
    rw [hL] at HST
    have HON := hide hon
    subst hOL
    clear hon hE hO hL hln hno
    have e1 : regsIf 0 regs = regs := by unfold regsIf; rw [if_pos rfl]
    rw [e1]
    clear e1
    go_enter Try.func44, Try.ntmps44
    go_wp2_with (go_at_call 86; go_must ((with_reducible refine (HN.out).mono ?_); rintro e w1 ⟨⟨a1, c1, rfl, hown1⟩, hb1⟩; have hn1 := below_new12 w1 (.cells #[.slice a1 on c1] 138); have hB1 := hb0.trans (hb1.mono hb0.size); have hB2 := hB1.trans (hn1.mono hB1.size); have hX2 := (hX.belowN hb1).belowN hn1; have hR2 := (hR.belowN hb1).belowN hn1; have hG2 := Blk.new w1 138 #[.slice a1 on c1]; have hO2 := hown1.at_.belowN hn1; have h2 := (h1.belowN hb1).belowN hn1; have hz2 := hB2.size; obtain ⟨p0, p1, p2, p3⟩ := hX2.c2; obtain ⟨r0, r1, r2, r3⟩ := hR2.c2; obtain ⟨g0, g1⟩ := hG2.c1))
    have hzo := hR2.lt
    have hxo := hX2.lt
    obtain ⟨W2, hW2⟩ : ∃ W2, W2 = w1.alloc (.cells #[.slice a1 on c1] 138) := ⟨_, rfl⟩
    rw [← hW2] at hB2 hX2 hR2 hG2 hO2 h2 hz2 p0 p1 p2 p3 r0 r1 r2 r3 g0 g1 hzo hxo ⊢
    obtain ⟨gq, hgq⟩ : ∃ gq, gq = w1.heap.size := ⟨_, rfl⟩
    rw [← hgq] at hG2 g0 g1 ⊢
    have hd9 : Below W2.heap.size W2 W2.drew := Below.drew (Below.refl _ _)
    have HSC := hide (fun W3 (hb3 : Below W2.heap.size W2 W3) => siftS_calls (.pointer (some ⟨gq, 0, none⟩)) (.pointer (some ⟨w.heap.size, 0, none⟩)) a c on l HLN.out (fun k => ((O[k]?).getD false || ((l[k]?.map (fun x => decide (x.kind = 7) || decide (x.kind = 0))).getD false))) W3 (h2.belowN hb3) hl (fun k hk W hb => by
      have hbW := hb3.trans (hb.mono hb3.size)
      have hkl : k < l.length := by rw [← HLN.out]; exact hk
      have hkO : k < O.length := by rw [← HON.out]; exact hk
      have e1 : l[k]? = some l[k] := List.getElem?_eq_getElem hkl
      have e2 : O[k]? = some O[k] := List.getElem?_eq_getElem hkO
      have := SiftClo_calls regs a c on l HLN.out a1 c1 on O HON.out gq w.heap.size k l[k] O[k] e1 e2 hl W (h2.belowN hbW) (hO2.belowN hbW) (hG2.belowN hbW) (hX2.belowN hbW)
      rw [e1, e2]
      exact this))
    rw [HST.out] at HSC
    obtain ⟨S', hS'⟩ : ∃ S' : World → Prop, S' = fun w' => w'.cell? ⟨w.heap.size, 0, none⟩ = some (.int .i64 regs) ∧ w'.cell? ⟨w.heap.size, 1, none⟩ = some (.slice a on c) := ⟨_, rfl⟩
    have HSE : Hid (∀ w', S' w' → w'.cell? ⟨w.heap.size, 0, none⟩ = some (.int .i64 regs) ∧ w'.cell? ⟨w.heap.size, 1, none⟩ = some (.slice a on c)) := hide fun w' h => by rw [hS'] at h; exact h
    have HSI4 : Hid (∀ w4, Below W2.heap.size W2 w4 → S' w4) := by
      show ∀ w4, _ → _
      intro w4 hb4
      obtain ⟨y0, _⟩ := bcell hb4
      rw [hS']
      exact ⟨(y0 _ _ hxo).trans p0, (y0 _ _ hxo).trans p1⟩
    clear hS' hW2 hgq
    refine wp_region_calls 5 7 S' (by kernel_rfl) (by kernel_rfl) (HSI4.out _ hd9) ?_
    simp only [List.take_succ_cons, List.take_zero, List.drop_succ_cons, List.drop_zero, Nat.reduceSub]
    iterate 5
      apply headK_step (by rfl)
      · intro w' hw'
        obtain ⟨s0, s1⟩ := HSE.out w' hw'
        go_simp
        rfl
      intro a' ha'
      simp only [Act.put, List.setIfInBounds_toArray, List.set_cons_succ, List.set_cons_zero] at ha'
      subst ha'
    refine headK_nil ?_
    rw [midK]
    intro K0 hK0
    have HK0 := hide hK0
    clear hK0
    go_simp
    go_at_call 87
    refine (HSC.out _ hd9).mono ?_
    rintro e w4 ⟨a4, c4, m4, rfl, hm4, hown4, hb4⟩
    have HM4 := hide hm4
    clear hm4
    have hB4 := hd9.trans (hb4.mono hd9.size)
    refine HK0.out _ _ (HSI4.out w4 hB4) ?_
    clear HK0
    rw [midK]
    intro K1 hK1
    have HK1 := hide hK1
    clear hK1
    go_simp
    refine HK1.out _ _ (HSI4.out w4 hB4) ?_
    clear HK1
    rw [midK]
    have hR4 := hR2.belowN hB4
    obtain ⟨s0, s1, s2, s3⟩ := hR4.c2
    clear HSI4 HSE HSC
    go_wp2
    refine NoPanic.normal ?_
    go_wp2
    try simp only [Exit.then, Exit.inBlock]
    try rw [Exit.noGoto_ret]
    have hF6 := (hR4.set_ 0 (.int .i64 regs)).set_ 1 (.slice a4 m4 c4)
    have hC4 := hB2.trans (hB4.mono hz2)
    refine bodyPost_ret (results_row_tmp rfl _ _ (w.heap.size + 1) _ #[.int .i64 regs, .slice a4 m4 c4] (0, 0) _ rfl hF6 Try.underlying24 rfl (by kernel_rfl)) rfl ?_
    exact ⟨a4, c4, m4, rfl, HM4.out, ((hown4.farLt (p := ⟨w.heap.size + 1, 0, none⟩) hzo _).farLt (p := ⟨w.heap.size + 1, 1, none⟩) hzo _).mono (show w.heap.size ≤ W2.drew.heap.size from Nat.le_of_lt (Nat.lt_of_le_of_lt (Nat.le_succ _) hzo)), ((hC4.setCell (p := ⟨w.heap.size + 1, 0, none⟩) (Nat.le_succ _) _).setCell (p := ⟨w.heap.size + 1, 1, none⟩) (Nat.le_succ _) _)⟩
  · rw [if_neg hE0] at hL
    subst hL
    have e1 : regsIf E regs = 0 := by unfold regsIf; rw [if_neg hE0]
    have e2 : (E == 0) = false := by simpa using hE0
    have e3 : (E != 0) = true := by simpa using hE0
    rw [e1]
    clear e1 hE0 hon hE hO hln hno
    go_enter Try.func44, Try.ntmps44
    go_wp2_with (go_at_call 86; go_must ((with_reducible refine (HN.out).mono ?_); rintro e w1 ⟨⟨a1, c1, rfl, hown1⟩, hb1⟩; have hn1 := below_new12 w1 (.cells #[.slice a1 on c1] 138); have hB1 := hb0.trans (hb1.mono hb0.size); have hB2 := hB1.trans (hn1.mono hB1.size); have hR2 := (hR.belowN hb1).belowN hn1; obtain ⟨r0, r1, r2, r3⟩ := hR2.c2))
    try simp only [Exit.then, Exit.inBlock]
    try rw [Exit.noGoto_ret]
    have hF6 := (hR2.set_ 0 (.int .i64 0)).set_ 1 (.slice none 0 0)
    refine bodyPost_ret (results_row_tmp rfl _ _ (w.heap.size + 1) _ #[.int .i64 0, .slice none 0 0] (0, 0) _ rfl hF6 Try.underlying24 rfl (by kernel_rfl)) rfl ?_
    exact ⟨none, 0, 0, rfl, rfl, Own.none _ _ _, ((hB2.setCell (p := ⟨w.heap.size + 1, 0, none⟩) (Nat.le_succ _) _).setCell (p := ⟨w.heap.size + 1, 1, none⟩) (Nat.le_succ _) _)⟩
end Go.Proofs.Ythncfoompoheoaa
