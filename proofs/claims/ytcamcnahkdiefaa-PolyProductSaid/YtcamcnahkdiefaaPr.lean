/- poly.heap: what a map holds, and what is put into it. -/
import Derived.StringKeys
import Derived.Test.YtcamcnahkdiefaaPq
import Derived.Test.YtcamcnahkdiefaaPj
namespace Go.Proofs.Ytcamcnahkdiefaa
set_option linter.unusedVariables false
set_option linter.unusedSimpArgs false
open Go.RowKit Go.Maps
theorem lawS : Keyed Try.prog 9 := string_keyed Try.underlying9
theorem zeroU (w : World) : (zeroValue 33).run Try.prog w = .ok (.int .u64 0) w := by kernel_rfl
theorem hkeyS {x : List UInt8} (h : x.length ≤ maxLen) : keyOf Try.prog 9 (.string ⟨x.toArray⟩) = some (.string x) := by
  have := Go.WideMaps.keyOf_string_mk (P := Try.prog) (s := ⟨x.toArray⟩) Try.underlying9 (by simpa [ByteArray.size] using h)
  simpa using this
theorem wfU (x : UInt64) : (Lit.int .u64 (x.toNat : Int)).wf = true := WalkArith.wf_u64 (by have := x.toNat_lt; omega)
theorem lit_u64 {H : Type} {a b : Int} (h : (DataW.lit (.int .u64 a) : DataW H) = .lit (.int .u64 b)) : a = b := by injection h with h; injection h
/-- the map, and the variables that lead to it -/
structure HeapM (w : World) (g : Nat) (vars : Int) (k : Nat) (D : DMap) : Prop where
  v : Blk w g 3 #[.int .i64 vars]
  t : Blk w (g + 2) 73 #[.map (some (g + 1))]
  m : w.ownsMap Try.prog 9 (plainElem Try.prog 33) (g + 1) k D
theorem HeapM.grown {w w' : World} {g : Nat} {vars : Int} {k : Nat} {D : DMap} {row : Option Nat} (h : HeapM w g vars k D) (hg : w.grownBy w' row) (h0 : ∀ j, row = some j → j ≠ g ∧ j ≠ g + 1 ∧ j ≠ g + 2) : HeapM w' g vars k D :=
  ⟨h.v.grown hg (fun e => (h0 g e.symm).1 rfl), h.t.grown hg (fun e => (h0 (g + 2) e.symm).2.2 rfl), h.m.kept hg (fun e => (h0 (g + 1) e.symm).2.1 rfl)⟩
theorem HeapM.belowN {w w' : World} {g : Nat} {vars : Int} {k : Nat} {D : DMap} (h : HeapM w g vars k D) (hb : Below w.heap.size w w') : HeapM w' g vars k D :=
  h.grown (grown_of_below hb none) (fun j e => by cases e)
/-- what has been put in -/
def HeapT (w : World) (g : Nat) (vars : Int) (n : Nat) (l : List Tm) : Prop := ∃ D, HeapM w g vars l.length D ∧ HeapIs n D l
theorem HeapT.grown {w w' : World} {g : Nat} {vars : Int} {n : Nat} {l : List Tm} {row : Option Nat} (h : HeapT w g vars n l) (hg : w.grownBy w' row) (h0 : ∀ j, row = some j → j ≠ g ∧ j ≠ g + 1 ∧ j ≠ g + 2) : HeapT w' g vars n l := by
  obtain ⟨D, h1, h2⟩ := h
  exact ⟨D, h1.grown hg h0, h2⟩
theorem HeapT.belowN {w w' : World} {g : Nat} {vars : Int} {n : Nat} {l : List Tm} (h : HeapT w g vars n l) (hb : Below w.heap.size w w') : HeapT w' g vars n l :=
  h.grown (grown_of_below hb none) (fun j e => by cases e)
theorem HeapT.lt {w : World} {g : Nat} {vars : Int} {n : Nat} {l : List Tm} (h : HeapT w g vars n l) : g + 2 < w.heap.size := by
  obtain ⟨D, h1, _⟩ := h
  exact h1.t.lt
/-- the closures -/
abbrev putF (g : Nat) : Value := .func (.func 51) #[] #[.pointer (some ⟨g + 2, 0, none⟩)]
abbrev allF (g : Nat) : Value := .func (.func 53) #[] #[.pointer (some ⟨g + 2, 0, none⟩), .pointer (some ⟨g, 0, none⟩)]
set_option maxHeartbeats 800000 in
theorem Heap_calls (n : Nat) (vars : Int) (w : World) :
    Calls Try.prog 32 #[.int .i64 vars] w fun v w' => v = .returned (.tuple #[putF w.heap.size, allF w.heap.size]) ∧ HeapT w' w.heap.size vars n [] ∧ Below w.heap.size w w' := by
  have hmm := @run_makeMap Try.prog
  go_enter Try.func32, Try.ntmps32
  go_wp2
  go_ret2
  have hz : (w.alloc (.cells #[.int .i64 vars] 3)).heap.size = w.heap.size + 1 := by simp
  refine ⟨rfl, ?_, ?_⟩
  · have h0 := Blk.new w 3 #[.int .i64 vars]
    have h1 := World.ownsMap_made (w.alloc (.cells #[.int .i64 vars] 3)) Try.prog 9 (plainElem (H := Unit) Try.prog 33)
    have h2 := Blk.new ((w.alloc (.cells #[.int .i64 vars] 3)).alloc (.map #[] 0)) 73 #[.map (some (w.heap.size + 1))]
    rw [hz] at h1
    have hz2 : ((w.alloc (.cells #[.int .i64 vars] 3)).alloc (.map #[] 0)).heap.size = w.heap.size + 2 := by simp
    rw [hz2] at h2
    exact ⟨_, ⟨(h0.alloc _).alloc _, h2, h1.alloc _⟩, HeapIs.nil n⟩
  · exact (((Below.refl _ _).alloc (Nat.le_refl _) _).alloc (by simp) _).alloc (by simp; omega) _
set_option maxRecDepth 100000 in
set_option maxHeartbeats 1600000 in
theorem Put_calls (w : World) (g : Nat) (vars : Int) (n : Nat) (l : List Tm) (hH : HeapT w g vars n l) (hl : l.length ≤ 1000000000) (t : Tm) (ea : Option Addr) (en ec : Nat) (hen : en = t.2.length) (hn : t.2.length = n) (hn6 : n ≤ 1000000) (hi : InE t.2) (hat : At w ea t.2) :
    Calls Try.prog 51 #[.int .u64 (t.1.toNat : Int), .slice ea en ec, .pointer (some ⟨g + 2, 0, none⟩)] w fun v w' => v = .returned (.tuple #[]) ∧ HeapT w' g vars n (l ++ [t]) ∧ w.grownBy w' (some (g + 1)) := by
  obtain ⟨D, hM, hI⟩ := hH
  obtain ⟨m0, m1⟩ := hM.t.c1
  have HK := hide (fun (W : World) (k : Below w.heap.size w W) => Key_calls ea en ec t.2 hen W (hat.belowN k) hi (by omega))
  obtain ⟨x, hx⟩ : ∃ x, keyB t.2 = x := ⟨_, rfl⟩
  have hxl : x.length ≤ maxLen := by rw [← hx, keyB_len]; unfold maxLen; omega
  have hkey := hide (hkeyS hxl)
  obtain ⟨o, ho⟩ : ∃ o, lin (dlt t.2) l = o := ⟨_, rfl⟩
  obtain ⟨S, hS⟩ : ∃ S, o + t.1 = S := ⟨_, rfl⟩
  have hadd := u64_add o t.1
  rw [hS] at hadd
  have HP := hide (hI.put hM.m.isMap hn hi (c := S) (by rw [ho, hS]))
  have HAT := hide (hI.at_ t.2 hn hi)
  rw [hx] at HK HP HAT
  rw [ho] at HAT
  have hBw := Below.drew (Below.refl w.heap.size w)
  have hmm := hM.m.kept (grown_of_below hBw none) (by simp)
  have HL : Hid (l.length < maxLen) := by show _ < _; unfold maxLen; omega
  have HM := hide hM
  clear hx ho hS hI hM hen hn
  go_enter Try.func51, Try.ntmps51
  go_wp2
  go_region_held3 (fun w' => w'.cell? ⟨g + 2, 0, none⟩ = some (.map (some (g + 1)))) (go_keep)
    ((go_at_call 52; go_must ((with_reducible refine (HK.out _ hBw).mono ?_); rintro v w5 ⟨rfl, hb5⟩; have hB5 := hBw.trans (hb5.mono hBw.size); have o0 := cell_later hB5 m0; have hm5 := hmm.kept (grown_of_below hb5 none) (by simp); obtain ⟨c0, hlk, hc0, _⟩ := hm5.lookup_int lawS Try.underlying73 Try.underlying33 (zeroU _) hkey.out; obtain rfl : c0 = (o.toNat : Int) := lit_u64 (hc0.symm.trans HAT.out); obtain ⟨w6, hup, hm6, hg6⟩ := hm5.update lawS Try.underlying73 HL.out hkey.out (plainElem_int Try.underlying33 (wfU S)); have o1 := hg6.cell o0 (by simp); clear hc0)))
  go_end0
  have hgw : w.grownBy w6 (some (g + 1)) := grown_trans (grown_of_below hB5 _) hg6
  refine ⟨rfl, ⟨_, ⟨HM.out.v.grown hgw (by simp), HM.out.t.grown hgw (by simp), ?_⟩, HP.out⟩, hgw⟩
  rw [List.length_append]; exact hm6
end Go.Proofs.Ytcamcnahkdiefaa
