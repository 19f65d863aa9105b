/- Plain facts on tidy programs: they stay as they are, they have no more writes, they leave the same in what is wanted. No program is named here. -/
import Derived.Test.YthncfoompoheoaaW17d
import Derived.Test.YthncfoompoheoaaQk
namespace Go.Proofs.Ythncfoompoheoaa
set_option linter.unusedVariables false
set_option linter.unusedSimpArgs false
open Go.RowKit

/-! ### Opened twice -/
theorem Fo.app_assoc (f g h : Fo) : (f.app g).app h = f.app (g.app h) := by
  induction f with
  | nil => rfl
  | leaf op r ih => simp [app, ih]
  | rep op b fin r _ ih => simp [app, ih]
theorem Fo.opn_app (f g : Fo) : (f.app g).opn = f.opn.app g.opn := by
  induction f with
  | nil => rfl
  | leaf op r ih => simp [app, opn, ih]
  | rep op b fin r _ ih =>
    simp only [app, opn, ih]
    split
    · rfl
    · split
      · rw [app_assoc]
      · rfl
theorem Fo.opn_opn (f : Fo) (hf : f.ok) : f.opn.opn = f.opn := by
  induction f with
  | nil => rfl
  | leaf op r ih => simp only [opn, ih hf.2.2]
  | rep op b fin r ihb ihr =>
    obtain ⟨h1, h2, h3, h4⟩ := hf
    have hw := (b.opn_props h2).2.2.1
    rw [opn]
    by_cases h0 : b.wr * op.v.toNat = 0
    · rw [if_pos h0]; exact ihr h4
    · rw [if_neg h0]
      by_cases hv : op.v.toNat = 1
      · rw [if_pos hv, opn_app, ihb h2, ihr h4]
      · rw [if_neg hv, opn, hw, if_neg h0, if_neg hv, ihb h2, ihr h4]
/-! ### Labels of one shape -/
theorem LF.sift_all (ok : Nat → Bool) (f : LF) (h : ∀ i ∈ f.labs, ok i = true) : f.sift ok = f := by
  induction f with
  | nil => rfl
  | leaf op i r ih =>
    unfold sift
    rw [if_pos (h i (by simp [labs])), ih (fun j hj => h j (by simp [labs, hj]))]
  | rep op b fin r ihb ihr =>
    unfold sift
    rw [ihb (fun j hj => h j (by simp [labs, hj])), ihr (fun j hj => h j (by simp [labs, hj]))]
theorem LF.shape (f : LF) : ∀ g : LF, f.fo = g.fo → f.labs.length = g.labs.length ∧ ∃ P : List (Nat × Nat × OpD), f.unr = P.map (fun t => (t.1, t.2.2)) ∧ g.unr = P.map (fun t => (t.2.1, t.2.2)) ∧ ∀ t ∈ P, (t.1, t.2.1) ∈ f.labs.zip g.labs := by
  induction f with
  | nil =>
    intro g h
    cases g with
    | nil => exact ⟨rfl, [], rfl, rfl, fun t ht => by cases ht⟩
    | leaf op i r => simp [fo] at h
    | rep op b fin r => simp [fo] at h
  | leaf op i r ih =>
    intro g h
    cases g with
    | nil => simp [fo] at h
    | leaf op' i' r' =>
      simp only [fo, Fo.leaf.injEq] at h
      obtain ⟨rfl, h⟩ := h
      obtain ⟨h1, P, p1, p2, p3⟩ := ih r' h
      refine ⟨by simp [labs, h1], (i, i', op) :: P, by simp [unr, p1], by simp [unr, p2], fun t ht => ?_⟩
      simp only [labs, List.zip_cons_cons]
      rcases List.mem_cons.1 ht with rfl | ht
      · exact List.mem_cons_self ..
      · exact List.mem_cons_of_mem _ (p3 t ht)
    | rep op' b fin r' => simp [fo] at h
  | rep op b fin r ihb ihr =>
    intro g h
    cases g with
    | nil => simp [fo] at h
    | leaf op' i' r' => simp [fo] at h
    | rep op' b' fin' r' =>
      simp only [fo, Fo.rep.injEq] at h
      obtain ⟨rfl, hb, _, hr⟩ := h
      obtain ⟨h1, P, p1, p2, p3⟩ := ihb b' hb
      obtain ⟨h2, Q, q1, q2, q3⟩ := ihr r' hr
      refine ⟨by simp [labs, h1, h2], (List.replicate op.v.toNat P).flatten ++ Q, ?_, ?_, fun t ht => ?_⟩
      · simp only [unr, List.map_append, List.map_flatten, List.map_replicate, p1, q1]
      · simp only [unr, List.map_append, List.map_flatten, List.map_replicate, p2, q2]
      · simp only [labs]
        rw [List.zip_append h1]
        rcases List.mem_append.1 ht with ht | ht
        · obtain ⟨x, hx, ht⟩ := List.mem_flatten.1 ht
          rw [List.eq_of_mem_replicate hx] at ht
          exact List.mem_append.2 (.inl (p3 t ht))
        · exact List.mem_append.2 (.inr (q3 t ht))
theorem zip_inj {a b : List Nat} (hn : a.Nodup) {i j j' : Nat} (h1 : (i, j) ∈ a.zip b) (h2 : (i, j') ∈ a.zip b) : j = j' := by
  obtain ⟨k, hk, e⟩ := List.getElem_of_mem h1
  obtain ⟨k', hk', e'⟩ := List.getElem_of_mem h2
  rw [List.getElem_zip] at e e'
  injection e with e1 e2
  injection e' with e1' e2'
  rw [List.length_zip] at hk hk'
  have : k = k' := (List.getElem_inj hn).1 (e1.trans e1'.symm)
  subst this
  exact e2.symm.trans e2'
theorem zip_right {a b : List Nat} (h : a.length = b.length) {j : Nat} (hj : j ∈ b) : ∃ i, (i, j) ∈ a.zip b := by
  obtain ⟨k, hk, e⟩ := List.getElem_of_mem hj
  refine ⟨a[k], ?_⟩
  have hz : k < (a.zip b).length := by rw [List.length_zip]; omega
  have : (a.zip b)[k] = (a[k], j) := by rw [List.getElem_zip, e]
  rw [← this]
  exact List.getElem_mem hz
/-- Where a flag comes from. -/
theorem flag_from (Z : List (Nat × OpD)) (s : Lv) (i : Nat) (h : flagF (lvRun Z s).ops i = true) : flagF s.ops i = true ∨ ∃ A op B, Z = A ++ (i, op) :: B ∧ getB (lvRun B s).want op.d = true := by
  induction Z with
  | nil => exact .inl h
  | cons p Z ih =>
    rw [lvRun_cons] at h
    unfold lvStep at h
    split at h
    · rename_i hw
      by_cases e : p.1 = i
      · exact .inr ⟨[], p.2, Z, by rw [← e]; rfl, hw⟩
      · have h' : flagF (lvRun Z s).ops i = true := by
          unfold flagF at h ⊢
          simp only at h
          rwa [List.getElem?_set, if_neg e] at h
        rcases ih h' with h' | ⟨A, op, B, e1, e2⟩
        · exact .inl h'
        · exact .inr ⟨p :: A, op, B, by rw [e1]; rfl, e2⟩
    · rcases ih h with h' | ⟨A, op, B, e1, e2⟩
      · exact .inl h'
      · exact .inr ⟨p :: A, op, B, by rw [e1]; rfl, e2⟩
theorem flag_to (A B : List (Nat × OpD)) (s : Lv) (j : Nat) (op : OpD) (hj : j < s.ops.length) (h : getB (lvRun B s).want op.d = true) : flagF (lvRun (A ++ (j, op) :: B) s).ops j = true := by
  rw [lvRun_append]
  refine lvRun_keeps A _ j ?_
  rw [lvRun_cons]
  unfold lvStep
  rw [if_pos h]
  unfold flagF
  simp only
  rw [List.getElem?_set, if_pos rfl, if_pos (by rw [(lvRun_lengths B s).2.1]; exact hj)]
  rfl
theorem map_split {α β : Type} {f : α → β} {P : List α} {A : List β} {x : β} {B : List β} (h : P.map f = A ++ x :: B) : ∃ P1 t P2, P = P1 ++ t :: P2 ∧ P1.map f = A ∧ f t = x ∧ P2.map f = B := by
  obtain ⟨P1, R, e1, e2, e3⟩ := List.map_eq_append_iff.1 h
  obtain ⟨t, P2, e4, e5, e6⟩ := List.map_eq_cons_iff.1 e3
  exact ⟨P1, t, P2, by rw [e1, e4], e2, e5, e6⟩
/-- The tidy program, labelled as it was. -/
def tidyT (f : Fo) (keep : Nat → Bool) : LF := ((f.lab 0).sift keep).opn
theorem tidyT_unr (f : Fo) (keep : Nat → Bool) : (tidyT f keep).unr = f.zl.filter (fun p => keep p.1) := by
  unfold tidyT
  rw [LF.unr_opn, LF.unr_sift, Fo.lab_zl]
theorem zl_bd (f : Fo) (hf : f.ok) : ∀ p ∈ f.zl, p.1 < f.size := by
  intro p hp
  have h1 : p.1 ∈ f.zl.map (·.1) := List.mem_map.2 ⟨p, hp, rfl⟩
  rw [Fo.zl_pls] at h1
  have := (f.pls_at hf 0 f.flat [] [] (by simp) rfl).2 p.1 h1
  omega
theorem flag_nil (n i : Nat) : flagF (List.replicate n false) i = false := by
  unfold flagF
  rw [List.getElem?_replicate]
  split <;> rfl
/-- All that a tidy program has is needed. -/
theorem tidyT_needed {f : Fo} (hf : f.ok) (nr : Nat) (outs : List Int) (keep : Nat → Bool) (hk : ∀ i, keep i = flagF (lvRun f.zl (lv0 nr f.size outs)).ops i) {G : Fo} (hG : (tidyT f keep).fo = G) (hGo : G.ok) :
    ∀ j ∈ (G.lab 0).labs, flagF (lvRun G.zl (lv0 nr G.size outs)).ops j = true := by
  intro j hj
  obtain ⟨hlen, P, p1, p2, p3⟩ := LF.shape (tidyT f keep) (G.lab 0) (by rw [hG, Fo.lab_fo])
  obtain ⟨i, hij⟩ := zip_right hlen hj
  have hi : i ∈ (tidyT f keep).labs := (List.of_mem_zip hij).1
  have hnd : (tidyT f keep).labs.Nodup := by
    unfold tidyT
    refine List.Nodup.sublist (LF.labs_opn _) ?_
    rw [LF.labs_sift]
    exact (f.lab_nodup 0).filter _
  have hki : keep i = true := by
    have : i ∈ ((f.lab 0).sift keep).labs := (LF.labs_opn _).subset hi
    rw [LF.labs_sift] at this
    exact (List.mem_filter.1 this).2
  rw [hk i] at hki
  rcases flag_from _ _ _ hki with h | ⟨A, op, B, e1, e2⟩
  · rw [show (lv0 nr f.size outs).ops = List.replicate f.size false from rfl, flag_nil] at h
    cases h
  rw [tidyT_unr, e1, List.filter_append, List.filter_cons, if_pos (by simp only; rw [hk i]; exact hki)] at p1
  obtain ⟨P1, t, P2, q1, q2, q3, q4⟩ := map_split p1.symm
  have ht : t ∈ P := by rw [q1]; simp
  injection q3 with q3a q3b
  have htj : t.2.1 = j := by
    have := p3 t ht
    rw [q3a] at this
    exact zip_inj hnd this hij
  have hz : G.zl = P1.map (fun t => (t.2.1, t.2.2)) ++ (j, op) :: P2.map (fun t => (t.2.1, t.2.2)) := by
    rw [← Fo.lab_zl, p2, q1, List.map_append, List.map_cons, htj, q3b]
  have hjs : j < G.size := by have := G.lab_labs_bd 0 j hj; omega
  rw [hz]
  refine flag_to _ _ _ j op (by simpa [lv0] using hjs) ?_
  -- what is wanted there
  have hw1 : (lvRun (B.filter (fun p => keep p.1)) (lv0 nr f.size outs)).want = (lvRun B (lv0 nr f.size outs)).want := by
    refine lvRun_filter keep B (lv0 nr f.size outs) (lv0 nr f.size outs) rfl (fun k hk9 => ?_) (fun p hp => ?_)
    · rw [hk k, e1, lvRun_append]
      exact lvRun_keeps A _ k (lvRun_keeps [(i, op)] _ k hk9)
    · have := zl_bd f hf p (by rw [e1]; simp [hp])
      simpa [lv0] using this
  rw [← hw1, lvRun_want, ← q4] at e2
  rw [lvRun_want]
  rw [List.map_map] at e2 ⊢
  exact e2
theorem tidy_idem {regs : Int} {f : Fo} (g : Good regs f) {outs : List Int} (hB : outsB regs outs = true) : ∃ G : Fo, Good regs G ∧ tidyL regs f.flat outs = G.flat ∧ tidyL regs G.flat outs = G.flat ∧ liveE regs G.flat outs = 0 ∧ G.wr ≤ f.wr ∧
    G.unroll = (f.zl.filter (fun p => flagF (lvRun f.zl (lv0 regs.toNat f.size outs)).ops p.1)).map (·.2) := by
  obtain ⟨h0, h1, h2, h3⟩ := live_good g hB
  obtain ⟨keep, hkeep⟩ : ∃ keep : Nat → Bool, keep = flagF (f.look regs outs).ops := ⟨_, rfl⟩
  have gs := g.sift keep
  have go := gs.opn
  have hfo : (tidyT f keep).fo = ((f.lab 0).sift keep).fo.opn := by unfold tidyT; rw [LF.fo_opn]
  have hS : siftL regs f.flat outs = ((f.lab 0).sift keep).fo.flat := by
    unfold siftL
    rw [if_pos h0, h1, ← hkeep, Fo.sift_flat f g.ok]
  obtain ⟨G, hG⟩ : ∃ G, ((f.lab 0).sift keep).fo.opn = G := ⟨_, rfl⟩
  rw [hG] at go hfo
  have hT : tidyL regs f.flat outs = G.flat := by
    unfold tidyL
    rw [if_pos h0, hS]
    unfold openL
    rw [if_pos gs.check, fo_flat gs.ok, hG]
  obtain ⟨k0, k1, k2, k3⟩ := live_good go hB
  have hnd : ∀ j ∈ (G.lab 0).labs, flagF (lvRun G.zl (lv0 regs.toNat G.size outs)).ops j = true := tidyT_needed g.ok regs.toNat outs keep (fun i => by rw [hkeep]; rfl) hfo go.ok
  have hS2 : siftL regs G.flat outs = G.flat := by
    unfold siftL
    rw [if_pos k0, k1, Fo.sift_flat G go.ok]
    have e9 : flagF (G.look regs outs).ops = flagF (lvRun G.zl (lv0 regs.toNat G.size outs)).ops := rfl
    rw [e9, LF.sift_all _ _ hnd, Fo.lab_fo]
  have hT2 : tidyL regs G.flat outs = G.flat := by
    unfold tidyL
    rw [if_pos k0, hS2]
    unfold openL
    rw [if_pos go.check, fo_flat go.ok, ← hG, Fo.opn_opn _ gs.ok]
  refine ⟨G, go, hT, hT2, k0, ?_, ?_⟩
  · rw [← hG, (Fo.opn_props _ gs.ok).2.2.1]
    have := (LF.sift_props (f.lab 0) keep (by rw [Fo.lab_fo]; exact g.ok)).2.2.1
    rw [Fo.lab_fo] at this
    exact this
  · have := LF.unr_fo (tidyT f keep)
    rw [hfo, tidyT_unr, hkeep] at this
    exact this.symm
/-- What a tidy program leaves in what is wanted. -/
theorem tidy_runs {regs : Int} {f G : Fo} (g : Good regs f) (gG : Good regs G) {outs : List Int} (hB : outsB regs outs = true) (hU : G.unroll = (f.zl.filter (fun p => flagF (lvRun f.zl (lv0 regs.toNat f.size outs)).ops p.1)).map (·.2)) {r : List UInt64} (hr : (r.length : Int) ≤ regs) {o : Int} (ho : o ∈ outs) :
    0 ≤ o ∧ o < regs ∧ getR (uptoS regs f.flat r (-1)) o = getR (uptoS regs G.flat r (-1)) o := by
  have hr1 := g.r1
  have hob : 0 ≤ o ∧ o < regs := by
    unfold outsB at hB
    have := List.all_eq_true.1 hB o ho
    simp only [Bool.and_eq_true, decide_eq_true_eq] at this
    exact this
  refine ⟨hob.1, hob.2, ?_⟩
  rw [uptoS_good g hr, uptoS_good gG hr, hU]
  unfold uptoL
  rw [if_pos (by omega), if_pos (by omega), ← Fo.zl_ops]
  obtain ⟨s0, hs0⟩ : ∃ s0, startR regs.toNat r = s0 := ⟨_, rfl⟩
  have hsl : (s0.length : Int) = regs := by rw [← hs0, startR_length _ _ (by omega)]; omega
  rw [hs0]
  have hInR : ∀ p ∈ f.zl, InR regs p.2 := fun p hp => by
    have : p.2 ∈ f.zl.map (·.2) := List.mem_map.2 ⟨p, hp, rfl⟩
    rw [Fo.zl_ops] at this
    exact g.inR _ this
  have hwl : ((lv0 regs.toNat f.size outs).want.length : Int) = regs := by simp [lv0, markL_length]; omega
  have h := run_filter (fun i => flagF (lvRun f.zl (lv0 regs.toNat f.size outs)).ops i) f.zl hInR (lv0 regs.toNat f.size outs) hwl (fun i hi => hi) (fun p hp => by have := zl_bd f g.ok p hp; simpa [lv0] using this) s0 s0 hsl hsl (fun j _ _ => rfl)
  refine h o hob.1 ?_
  show getB (markL (List.replicate regs.toNat false) outs) o = true
  rw [getB_mark _ _ _ (fun i hi => by
    unfold outsB at hB
    have := List.all_eq_true.1 hB i hi
    simp only [Bool.and_eq_true, decide_eq_true_eq] at this
    simp
    omega) hob.1]
  simp [ho]
end Go.Proofs.Ythncfoompoheoaa
