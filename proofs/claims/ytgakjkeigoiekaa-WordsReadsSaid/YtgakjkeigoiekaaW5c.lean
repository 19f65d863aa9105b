/- The walk of the document's split. -/
import Derived.Test.YtgakjkeigoiekaaW5b
namespace Go.Proofs.Ytgakjkeigoiekaa
set_option linter.unusedVariables false
set_option linter.unusedSimpArgs false
open Go.RowKit

set_option maxHeartbeats 800000 in
theorem Split5_calls (a : Option Addr) (c : Nat) (l : List UInt64) (n : Int) (w : World) (h : At w a l) (hc : l.length ≤ c) (hl : l.length ≤ 1000000) (hn1 : -9223372036854775808 ≤ n) (hn2 : n ≤ 9223372036854775807) :
    Calls Try.prog 16 #[.slice a l.length c, .int .i64 n] w fun e w' => ∃ a1 c1 a2 c2, e = .returned (.tuple #[.slice a1 (split l n).1.length c1, .slice a2 (split l n).2.1.length c2, .int .i64 (split l n).2.2]) ∧
      AtL w' a1 (split l n).1 ∧ At w' a2 (split l n).2.1 ∧ Below w.heap.size w w' := by
  by_cases hn : n < 0
  · have hs : split l n = ([], [], 2) := by simp [split, hn]
    rw [hs]
    clear hs
    go_enter Try.func16, Try.ntmps16
    go_wp2
    go_ret3
    exact ⟨none, 0, none, 0, rfl, (OwnL.none w 0 0).at_, At.nil _ _, Below.refl _ _⟩
  · obtain ⟨R, hR⟩ : ∃ R, R = split l n := ⟨_, rfl⟩
    have hs : R = match splitF n.toNat l with | none => ([], [], 4) | some p => (p.1, p.2, 0) := by rw [hR, split, if_neg hn]; cases splitF n.toNat l <;> rfl
    rw [← hR]
    have HS := hide hs
    clear hs hR
    go_enter Try.func16, Try.ntmps16
    go_wp2
    go_loopw [8] (fun out wr => ∃ (ao : Option Addr) (co : Nat) (hs : List Hd) (o : List (List UInt64)) (p : Nat), out = .slice ao o.length co ∧ p ≤ l.length ∧ o.length ≤ p ∧
        (o.length : Int) ≤ n ∧ Hid (splitF n.toNat l = (splitF (n.toNat - o.length) (l.drop p)).map fun q => (o ++ q.1, q.2)) ∧ OwnL wr (w.heap.size + 1) 23 ao co hs o ∧ Below w.heap.size w wr ∧ w.heap.size + 1 ≤ wr.heap.size ∧
        Blk wr w.heap.size 77 #[.slice a l.length c, .int .i64 (p : Int), .int .i64 0])
      (fun out _ => match out with | .slice _ k _ => n.toNat - k | _ => 0)
    case atStart =>
      refine ⟨_, 0, [], [], 0, rfl, Nat.zero_le _, Nat.le_refl _, by simpa using hn, by simp [Hid], ⟨?_, rfl, fun i h l hx => by simp at hx⟩, ?_, ?_, ?_⟩
      · have := Own.new (B := w.heap.size + 1) (w.alloc (.cells #[Value.slice a l.length c, Value.int IntKind.i64 0, Value.int IntKind.i64 0] 77)) (by simp) 23 Hd
        simpa using this
      · exact (by with_reducible repeat first | exact Below.refl _ _ | assumption | refine below_drewN ?_ _ | refine Below.drew ?_ | refine Below.alloc ?_ (by simp <;> omega) _ | refine Below.setCell ?_ (by simp <;> omega) _)
      · simp
      · exact (Blk.new w _ _).alloc _
    case round =>
      obtain ⟨ao, co, hs, o, p, rfl, hp, hop, hon, hsp, hown, hbel, hsz, hblk⟩ := hrel
      have hs1 : w.heap.size < wr.heap.size := by omega
      obtain ⟨r0, r1, r2, r3, r4, r5⟩ := hblk.c3
      by_cases hlt : (o.length : Int) < n
      · by_cases hge : l.length ≤ p
        · have hd : decide (l.length ≤ p) = true := by simpa using hge
          have hR2 : R = ([], [], 4) := by
            rw [HS.out, hsp.out, List.drop_eq_nil_of_le hge]
            have : n.toNat - o.length = (n.toNat - o.length - 1) + 1 := by omega
            rw [this]
            rfl
          have HR2 := hide hR2
          clear hR2
          go_wp2
          go_quiet (fail)
          go_wp2
          go_ret3
          have hR2 := HR2.out
          subst hR2
          exact ⟨none, 0, none, 0, rfl, (OwnL.none _ 0 0).at_, At.nil _ _, (by with_reducible repeat first | exact Below.refl _ _ | assumption | refine below_drewN ?_ _ | refine Below.drew ?_ | refine Below.alloc ?_ (by simp <;> omega) _ | refine Below.setCell ?_ (by simp <;> omega) _)⟩
        · have hd : decide (l.length ≤ p) = false := by simpa using hge
          have hpl : p < l.length := by omega
          obtain ⟨b, off, x, rfl, hx, hcell⟩ := h.getU hbel hpl
          have hdr := drop_at hx.out
          have hstep : splitF (n.toNat - o.length) (l.drop p) = if (l.drop (p + 1)).length < x.toNat then none else (splitF (n.toNat - (o.length + 1)) ((l.drop (p + 1)).drop x.toNat)).map fun q => ((l.drop (p + 1)).take x.toNat :: q.1, q.2) := by
            have : n.toNat - o.length = (n.toNat - (o.length + 1)) + 1 := by omega
            rw [this, hdr]
            rfl
          have HST := hide hstep
          clear hstep hdr
          by_cases hxx : l.length - p - 1 < x.toNat
          · have hR2 : R = ([], [], 4) := by
              rw [HS.out, hsp.out, HST.out, if_pos (by simp; omega)]
              rfl
            have HR2 := hide hR2
            clear hR2
            go_wp2
            go_quiet (fail)
            go_wp2
            go_ret3
            have hR2 := HR2.out
            subst hR2
            exact ⟨none, 0, none, 0, rfl, (OwnL.none _ 0 0).at_, At.nil _ _, (by with_reducible repeat first | exact Below.refl _ _ | assumption | refine below_drewN ?_ _ | refine Below.drew ?_ | refine Below.alloc ?_ (by simp <;> omega) _ | refine Below.setCell ?_ (by simp <;> omega) _)⟩
          · obtain ⟨L, hL⟩ : ∃ L, L = (l.drop (p + 1)).take x.toNat := ⟨_, rfl⟩
            have hLl : L.length = x.toNat := by rw [hL]; simp; omega
            have hls : listS l p 0 l.length = (L, p + 1 + x.toNat, 0) := by
              rw [hL]
              have h1 : wordS l p 0 = (x, p + 1, 0) := by simp [wordS, hx.out]
              have h2 : intS l p 0 l.length = ((x.toNat : Int), p + 1, 0) := by
                unfold intS
                rw [h1, if_pos rfl, if_neg (by simp; omega)]
              unfold listS
              rw [h2, if_pos rfl, if_neg (by simp; omega)]
              simp
            have hW : ∀ w' : World, At w' (some ⟨b, off, none⟩) l → _ := fun w' h' => List5_calls (some ⟨b, off, none⟩) c l p 0 l.length w' h' hl hp (by omega) (by omega)
            rw [hls] at hW
            have HW := hide hW
            have HL := hide hL
            have HLl := hide hLl
            clear hls hW hL hLl
            go_wp2
            go_quiet (fail)
            go_wp2_with (first
              | (go_at_call 43; refine (HW.out _ ((h.belowN hbel).drewN _)).mono ?_; rintro e w1 ⟨a1, c1, rfl, hown1, hbel1⟩; have hownL := (hown.belowN (below_drawn wr wr.heap.size nq)).belowN hbel1; have hz := hbel1.size)
              | (at_builtin; go_loud (refine wpList_push tyUU (hownL.1.alloc _) ⟨a1, L.length, c1⟩ rfl rfl rfl rfl rfl (by simp) hownL.2.1.symm (by simp at hz ⊢; omega) (by omega) ?_); intro a2 c2 w2 hown2 hg2 hm2; have hz2 : w1.heap.size < w2.heap.size := (by have := hg2.size; simp at this; omega); have hz3 : w.heap.size < w2.heap.size := (by simp at hz; omega); have PB := (((hblk.drewN nq).belowN hbel1).alloc _).grown hg2 (fun e => by have := (hown.1.blk _ e.symm).1; omega); have QB := (Blk.new w1 _ _).grown hg2 (fun e => by have := (hownL.1.blk _ e.symm).2; omega); obtain ⟨v0, v1, v2, v3, v4, v5⟩ := PB.c3; obtain ⟨z0, z1, z2, z3, z4, z5⟩ := QB.c3))
            go_roundw
            case rel =>
              have hs9 : wr.heap.size ≤ w1.heap.size := by simpa using hz
              have hne := own_apart (w0 := w) hown.1 hown1 (by simp; omega) (by simp)
              have hcap1 := hown1.cap
              have e1 := HLl.out
              have hgw : w1.grownBy w2 (ao.map (·.block)) := ⟨hg2.os, hg2.tape, hg2.output, Nat.le_trans (by simp) hg2.size, fun k hk hn => (hg2.block k (by simp; omega) hn).trans (Below.heap_alloc w1 _ k hk)⟩
              refine ⟨a2, c2, hs ++ [⟨a1, L.length, c1⟩], o ++ [L], p + 1 + x.toNat, by simp, by omega, by simp; omega, by simp; omega, ?_, ?_, ?_, ?_, ?_⟩
              · show splitF n.toNat l = _
                rw [hsp.out, HST.out, if_neg (by simp; omega), HL.out]
                simp [List.append_assoc, Function.comp_def, Nat.add_assoc]
              · have := hownL.push hown1.at_ hcap1.1 hne hown2 hgw (by rcases hm2 with e | ⟨g, e, h⟩; exact .inl e; exact .inr ⟨g, e, by simp at h; omega⟩)
                exact OwnL.setCell (OwnL.setCell (OwnL.setCell this (by simp) _) (by simp) _) (by simp) _
              · have hB1 : Below w.heap.size w w1 := (below_drewN hbel nq).trans (hbel1.mono (by simp; omega))
                have hB2 : Below w.heap.size w w2 := hB1.grown hgw (by omega) (fun k hk => by have := (hown.1.blk k hk).1; omega)
                exact (by with_reducible repeat first | exact Below.refl _ _ | assumption | refine below_drewN ?_ _ | refine Below.drew ?_ | refine Below.alloc ?_ (by simp <;> omega) _ | refine Below.setCell ?_ (by simp <;> omega) _)
              · simp; omega
              · simpa using ((PB.set_ 0 (Value.slice (some ⟨b, off, none⟩) l.length c)).set_ 1 (Value.int IntKind.i64 (↑p + 1 + ↑x.toNat))).set_ 2 (Value.int IntKind.i64 0)
            case measure => simp; omega
      · have e0 : n.toNat - o.length = 0 := by omega
        have hR2 : R = (o, l.drop p, 0) := by
          rw [HS.out, hsp.out, e0]
          simp [splitF]
        have HR2 := hide hR2
        clear hR2
        have hdp : At w (cutA a p c 1) (l.drop p) := h.cut (k := p) hc
        go_wp2
        go_quiet (fail)
        go_wp2
        go_ret3
        have hR2 := HR2.out
        subst hR2
        exact ⟨ao, co, cutA a p c 1, c - p, by simp, ((hown.belowN (below_drawn _ _ _))).at_, (hdp.belowN hbel).drewN _, (by with_reducible repeat first | exact Below.refl _ _ | assumption | refine below_drewN ?_ _ | refine Below.drew ?_ | refine Below.alloc ?_ (by simp <;> omega) _ | refine Below.setCell ?_ (by simp <;> omega) _)⟩
end Go.Proofs.Ytgakjkeigoiekaa
