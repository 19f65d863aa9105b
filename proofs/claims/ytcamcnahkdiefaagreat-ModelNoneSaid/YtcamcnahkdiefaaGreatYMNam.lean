/- Several texts of mine in one file. -/
import Derived.Sort.OwnSorted
import Derived.Sort.KeysCollected
import Derived.Test.YtcamcnahkdiefaaGreatYMNak
import Derived.Test.YtcamcnahkdiefaaGreatYMNal
import Derived.Test.YtcamcnahkdiefaaGreatYMNac
import Derived.StringKeys
import Derived.Test.YtcamcnahkdiefaaGreatYMNaj
import Derived.Lib.AppendZeros
/- Several texts of mine in one file: Ss, Pq, Pj, Pr, Ps. -/
/- Strings in a slice of the call's own, sorted and turned round by the library. -/
namespace Go.Proofs.YtcamcnahkdiefaaGreat
set_option linter.unusedVariables false
set_option linter.unusedSimpArgs false
open Go.RowKit Go.Sort
instance : Flat (List UInt8) := ⟨1, fun x => [encStr x], fun _ => rfl, fun x u hu => by simp at hu; subst hu; rfl, by decide⟩
theorem flat_str (ss : List (List UInt8)) : ss.flatMap Flat.enc = ss.map encStr := by
  induction ss with
  | nil => rfl
  | cons x ss ih => rw [List.flatMap_cons, List.map_cons, ih]; rfl
theorem Own.str {w : World} {B : Nat} {E : TypeId} {a : Option Addr} {c : Nat} {ss : List (List UInt8)} (h : Own w B E a c ss) : w.ownsRow B E 1 (.slice a ss.length c) ss.length (ss.map encStr) := by
  unfold Own at h; rw [flat_str] at h; exact h
theorem Own.ofStr {w : World} {B : Nat} {E : TypeId} {a : Option Addr} {c : Nat} {ss : List (List UInt8)} (h : w.ownsRow B E 1 (.slice a ss.length c) ss.length (ss.map encStr)) : Own w B E a c ss := by
  unfold Own; rw [flat_str]; exact h
theorem Len64_zero (w : World) : Calls Tryz.prog 181 #[.int .u64 0] w fun e w' => e = .returned (.int .i64 0) ∧ w' = w := by
  have e : Lib.len8 0 = 0 := by kernel_rfl
  go_enter Tryz.func181, Tryz.ntmps181
  go_wp2
  go_ret
  exact ⟨by simp [e], rfl⟩
theorem Len_zero (w : World) : Calls Tryz.prog 155 #[.int .u64 0] w fun e w' => e = .returned (.int .i64 0) ∧ w' = w := by
  go_enter Tryz.func155, Tryz.ntmps155
  go_wp2_with (go_at_call 181; refine (Len64_zero _).mono ?_; rintro e w' ⟨rfl, rfl⟩)
  go_ret
  exact ⟨rfl, rfl⟩
theorem Insert_nil (p : Option Addr) (cap : Nat) (w : World) : Calls Tryz.prog 171 #[.slice p 0 cap, .int .i64 0, .int .i64 0] w fun e w' => e = .returned (.tuple #[]) ∧ w' = w := by
  go_enter Tryz.func171, Tryz.ntmps171
  go_wp2
  refine wp_loop_rounds 1 ?_
  rw [rounds_succ]
  go_wp2
  go_end0
  exact ⟨rfl, rfl⟩
set_option maxRecDepth 100000 in
theorem Pdq_nil (p : Option Addr) (cap : Nat) (w : World) : Calls Tryz.prog 154 #[.slice p 0 cap, .int .i64 0, .int .i64 0, .int .i64 0] w fun e w' => e = .returned (.tuple #[]) ∧ w' = w := by
  go_enter Tryz.func154, Tryz.ntmps154
  go_wp2
  refine wp_loop_rounds 1 ?_
  rw [rounds_succ]
  go_wp2_with (first | (go_at_call 171; refine (Insert_nil p cap _).mono ?_; rintro e w' ⟨rfl, rfl⟩))
  refine bodyPost_ret (results_none rfl _ _ _) rfl ?_
  exact ⟨rfl, rfl⟩
set_option maxRecDepth 100000 in
theorem Sort_nil (p : Option Addr) (cap : Nat) (w : World) : Calls Tryz.prog 120 #[.slice p 0 cap] w fun e w' => e = .returned (.tuple #[]) ∧ w' = w := by
  go_enter Tryz.func120, Tryz.ntmps120
  go_wp2_with (first
    | (go_at_call 155; refine (Len_zero _).mono ?_; rintro e w' ⟨rfl, rfl⟩)
    | (go_at_call 154; refine (Pdq_nil p cap _).mono ?_; rintro e w' ⟨rfl, rfl⟩))
  go_end0
  exact ⟨rfl, rfl⟩
theorem SortS_calls (w : World) (B : Nat) (E : TypeId) (a : Option Addr) (n c : Nat) (ss : List (List UInt8)) (hn : n = ss.length) (h : Own w B E a c ss) (hl : n ≤ 1000000000) :
    Calls Tryz.prog 120 #[.slice a n c] w fun v w' => v = .returned (.tuple #[]) ∧ Own w' B E a c (ss.mergeSort leB) ∧ w.grownBy w' (a.map (·.block)) := by
  subst hn
  have hcap := h.cap
  rcases h.str.2 with ⟨h0, _⟩ | ⟨g, cap, cur, h0, hbase, hb, h1, h2, h3, h4⟩
  · injection h0 with e1 e2 e3
    subst e1 e3
    have hs : ss = [] := List.eq_nil_of_length_eq_zero e2
    subst hs
    refine (Sort_nil none 0 w).mono ?_
    rintro e w' ⟨rfl, rfl⟩
    exact ⟨rfl, by simpa using h, grown_drewN w' 0 _⟩
  · injection h0 with e1 e2 e3
    subst e1 e3
    have hH : Holds encStr w g 0 ss.toArray := holds_of_block hb (by simpa using h4)
    have hgl : g < w.heap.size := (Array.getElem?_eq_some_iff.1 hb).1
    have hmx : ss.length < 4611686018427387904 := by omega
    refine (Any.slices_Sort_string lays190 g 0 c ss w hH hgl hmx).mono ?_
    rintro e w' ⟨rfl, nn, os, rfl⟩
    refine ⟨rfl, Own.ofStr ?_, grownBy_sorted _⟩
    have := ownsRow_sorted (n := nn) (os := os) (ts := ss.mergeSort leB) (by simp) hbase hb h1 h2 h3
    simpa using this
theorem RevS_calls (w : World) (B : Nat) (E : TypeId) (a : Option Addr) (n c : Nat) (ss : List (List UInt8)) (hn : n = ss.length) (h : Own w B E a c ss) :
    Calls Tryz.prog 121 #[.slice a n c] w fun v w' => v = .returned (.tuple #[]) ∧ Own w' B E a c ss.reverse ∧ w.grownBy w' (a.map (·.block)) := by
  subst hn
  have hcap := h.cap
  rcases h.str.2 with ⟨h0, _⟩ | ⟨g, cap, cur, h0, hbase, hb, h1, h2, h3, h4⟩
  · injection h0 with e1 e2 e3
    subst e1 e3
    have hs : ss = [] := List.eq_nil_of_length_eq_zero e2
    subst hs
    refine (Any.slices_Reverse_string_empty lays17 none 0 w).mono ?_
    rintro e w' ⟨rfl, rfl⟩
    exact ⟨rfl, by simpa using h, grown_drewN w' 0 _⟩
  · injection h0 with e1 e2 e3
    subst e1 e3
    have hH : Holds encStr w g 0 ss.toArray := holds_of_block hb (by simpa using h4)
    have hmx : ss.length ≤ 9223372036854775807 := Nat.le_trans (Nat.le_trans hcap.1 hcap.2) (by unfold maxLen; decide)
    refine (Any.slices_Reverse_string lays17 g 0 c ss w hH hmx).mono ?_
    rintro e w' ⟨rfl, nn, rfl⟩
    have hz : ∀ W : World, grow W #[] = W := fun W => by simp [grow]
    rw [← hz (putRow encStr (Sort.ahead w nn) g 0 ss.reverse.toArray)]
    refine ⟨rfl, Own.ofStr ?_, grownBy_sorted _⟩
    have := ownsRow_sorted (n := nn) (os := #[]) (ts := ss.reverse) (by simp) hbase hb h1 h2 h3
    simpa using this
end Go.Proofs.YtcamcnahkdiefaaGreat

/- Powers as a text, and back. -/
namespace Go.Proofs.YtcamcnahkdiefaaGreat
set_option linter.unusedVariables false
set_option linter.unusedSimpArgs false
open Go.RowKit
theorem tyB8 : Ty Tryz.prog 235 5 UInt8 := Ty.of (z := .int .u8 0) (size := 1) (bytes := 1) Tryz.underlying235 (by kernel_rfl) rfl (by decide) rfl
theorem keyB_take {e : List Int} {k : Nat} {x : Int} (h : e[k]? = some x) : keyB (e.take (k + 1)) = keyB (e.take k) ++ two x := by
  rw [List.take_add_one, h]
  unfold keyB
  rw [List.flatMap_append]; simp
theorem convert_key {w : World} {B : Nat} {E : TypeId} {a : Option Addr} {c : Nat} {l : List UInt8} {n : Nat} (h : Own w B E a c l) (hn : n = l.length) :
    (convert 235 9 (.slice a n c)).run Tryz.prog w = .ok (.string ⟨l.toArray⟩) w := by
  subst hn
  rcases h.form with ⟨rfl, rfl, rfl⟩ | ⟨g, rfl, _, _⟩
  · rw [run_convert_bytes_string w _ _ 5 none _ 0 Tryz.underlying235 Tryz.underlying5 Tryz.underlying9]
    simp [Conv.bytesToString]
    rfl
  · refine run_convert_bytes_back w _ _ 5 _ _ l Tryz.underlying235 Tryz.underlying5 Tryz.underlying9 fun j hj => ?_
    have := h.at_.one j l[j] (List.getElem?_eq_getElem hj) 0 _ rfl
    rw [addr_add]
    simpa [Flat.n] using this
set_option maxHeartbeats 1600000 in
theorem Key_calls (a : Option Addr) (n c : Nat) (e : List Int) (hn : n = e.length) (w : World) (h : At w a e) (hi : InE e) (hl : n ≤ 1000000) :
    Calls Tryz.prog 118 #[.slice a n c] w fun v w' => v = .returned (.string ⟨(keyB e).toArray⟩) ∧ Below w.heap.size w w' := by
  have HN := hide hn
  have HI := hide hi
  clear hn hi
  go_enter Tryz.func118, Tryz.ntmps118
  go_wp2
  go_loopw [3, 8] (fun bv iv wr => ∃ (k : Nat) (ao : Option Addr) (m co : Nat), iv = .int .i64 k ∧ k ≤ n ∧ bv = .slice ao m co ∧ Hid (m = 2 * k) ∧ Own wr w.heap.size 5 ao co (keyB (e.take k)) ∧ Below w.heap.size w wr) (fun _ iv _ => n - (intOf iv).toNat)
  case atStart => exact ⟨0, none, 0, 0, rfl, by omega, rfl, rfl, Own.none _ _ _, Below.refl _ _⟩
  case round =>
    obtain ⟨k, ao, m, co, rfl, hk, rfl, hm, hown, hb⟩ := hrel
    have hzr := hb.size
    by_cases hlt : k < n
    · obtain ⟨b1, off1, x, rfl, hx, x0⟩ := h.getI hb (k := k) (by rw [← HN.out]; exact hlt)
      have hk0 : (0 : Int) ≤ (k : Int) := by omega
      have hk1 : (k : Int) < (n : Int) := by omega
      have hxr := HI.out x (List.mem_of_getElem? hx.out)
      have HS := hide (keyB_take hx.out)
      have HL := hide (show m = (keyB (e.take k)).length by rw [keyB_len, List.length_take, ← HN.out, hm.out]; omega)
      obtain ⟨p, rfl⟩ : ∃ p : Nat, x = p := ⟨x.toNat, by omega⟩
      obtain ⟨u, hu⟩ : ∃ u : UInt8, u = UInt8.ofNat (p / 256) := ⟨_, rfl⟩
      obtain ⟨v, hv⟩ : ∃ v : UInt8, v = UInt8.ofNat (p % 256) := ⟨_, rfl⟩
      have HT : Hid (two (p : Int) = [u, v]) := by show _ = _; unfold two; rw [Int.toNat_natCast, hu, hv]
      have hu2 : IntKind.u8.wrap ((p : Int) / 256) = (u.toNat : Int) := by
        rw [hu, UInt8.toNat_ofNat']
        simp [IntKind.wrap, IntKind.bits, IntKind.signed]
      have hv2 : IntKind.u8.wrap (p : Int) = (v.toNat : Int) := by
        rw [hv, UInt8.toNat_ofNat']
        simp [IntKind.wrap, IntKind.bits, IntKind.signed]
      clear hx hu hv
      have hA : At (wr.alloc (.cells #[.int .u8 (u.toNat : Int), .int .u8 (v.toNat : Int)] 5)) (some ⟨wr.heap.size, 0, none⟩) [u, v] := At.ofBlk (Blk.new wr _ _) _ rfl
      have hzA : w.heap.size ≤ (wr.alloc (.cells #[.int .u8 (u.toNat : Int), .int .u8 (v.toNat : Int)] 5)).heap.size := by rw [World.size_alloc]; omega
      have hm9 : m ≤ 1000000000 := by rw [hm.out]; omega
      go_wp2_with (at_builtin; go_must (refine wpList_pushAll tyB8 (hown.alloc _) hA rfl rfl rfl rfl HL.out rfl hzA hm9 (by decide) ?_; intro a3 c3 w3 hown3 hg3 _))
      go_roundw
      case rel => exact ⟨k + 1, a3, m + 2, c3, by go_num, by omega, rfl, by show _ = _; rw [hm.out]; omega, by rw [HS.out, HT.out]; exact hown3, below_push (hb.alloc hzr _) (hown.alloc _) hg3 hzA⟩
      case measure => simp [intOf]; omega
    · obtain rfl : k = n := by omega
      have hE : e.take k = e := by rw [HN.out]; exact List.take_length
      rw [hE] at hown
      have hcv := convert_key hown (n := m) (by rw [keyB_len, ← HN.out, hm.out])
      clear hE
      go_wp2
      go_ret
      exact ⟨rfl, hb⟩
theorem tyI03 : TyZ Tryz.prog 90 3 (0 : Int) (.int .i64 0) := TyZ.of (bytes := 8) Tryz.underlying90 (by kernel_rfl) (by decide) rfl rfl
theorem key_at {e : List Int} (hi : InE e) {k p : Nat} (h : e[k]? = some (p : Int)) : (keyB e)[2 * k]? = some (UInt8.ofNat (p / 256)) ∧ (keyB e)[2 * k + 1]? = some (UInt8.ofNat (p % 256)) := by
  induction e generalizing k with
  | nil => simp at h
  | cons x e ih =>
    rw [keyB_cons]
    cases k with
    | zero =>
      simp at h
      subst h
      rw [Int.toNat_natCast]
      exact ⟨rfl, rfl⟩
    | succ k =>
      rw [show 2 * (k + 1) = 2 * k + 1 + 1 by omega]
      simp only [List.getElem?_cons_succ] at h ⊢
      exact ih hi.tail h
theorem two_join {u v p : Nat} (hu : u = p / 256) (hv : v = p % 256) (hp : p ≤ 65535) : wrap64 (u : Int) = (u : Int) ∧ wrap64 (v : Int) = (v : Int) ∧ wrap64 ((u : Int) * 256) = (u : Int) * 256 ∧ bits .or .i64 ((u : Int) * 256) (v : Int) = (p : Int) := by
  have h1 : u ≤ 255 := by omega
  have h2 : v ≤ 255 := by omega
  have h3 : (u : Int) * 256 + (v : Int) = (p : Int) := by omega
  clear hu hv
  refine ⟨IntWalk.wrap64_in _ ⟨by omega, by omega⟩, IntWalk.wrap64_in _ ⟨by omega, by omega⟩, IntWalk.wrap64_in _ ⟨by omega, by omega⟩, ?_⟩
  rw [bits_join .i64 62 (by decide) (fun n h1 h2 => by rw [IntKind.wrap_i64]; omega) 8 _ _ (by omega) (by omega) (by omega) (by omega) (by omega) (by omega)]
  exact h3
set_option maxHeartbeats 1600000 in
theorem Powers_calls (e : List Int) (s : ByteArray) (hs : s = ⟨(keyB e).toArray⟩) (w : World) (hi : InE e) (hl : e.length ≤ 1000000) :
    Calls Tryz.prog 122 #[.string s] w fun v w' => ∃ a, v = .returned (.slice (some a) e.length e.length) ∧ Own w' w.heap.size 3 (some a) e.length e ∧ Below w.heap.size w w' := by
  obtain ⟨n, hn⟩ : ∃ n, n = e.length := ⟨_, rfl⟩
  rw [← hn] at hl ⊢
  obtain ⟨m, hm⟩ : ∃ m : Nat, s.size = m := ⟨_, rfl⟩
  have hm2 : m = 2 * n := by rw [← hm, hs, hn]; simp [ByteArray.size, keyB_len]
  have hq : (m : Int) / 2 = (n : Int) := by omega
  have hq2 : (m : Int).tdiv 2 = (n : Int) := by rw [Int.tdiv_eq_ediv_of_nonneg (by omega)]; exact hq
  have hq3 : wrap64 (n : Int) = (n : Int) := IntWalk.wrap64_in _ (by omega)
  have HN := hide hn
  have HM := hide hm2
  have HI := hide hi
  have HK : Hid (∀ (j : Nat) (u : UInt8) (W : World), (keyB e)[j]? = some u → (Instr.index 9 (.string s) (.int .i64 (j : Int))).run Tryz.prog W = .ok (.int .u8 (u.toNat : Int)) W) := hide (by
    intro j u W hj
    have hj' : j < (keyB e).length := (List.getElem?_eq_some_iff.1 hj).1
    have hjs : (0 : Int) ≤ (j : Int) ∧ (j : Int) < s.size := by rw [hs]; simp [ByteArray.size]; omega
    rw [run_index_string W _ s _ _ Tryz.underlying9, dif_pos hjs]
    have : s[((j : Int)).toNat]'(by omega) = u := by
      subst hs
      have h2 := (List.getElem?_eq_some_iff.1 hj).2
      rw [← h2]
      simp only [Int.toNat_natCast]
      rfl
    rw [this])
  clear hn hm2 hi hs
  go_enter Tryz.func122, Tryz.ntmps122
  go_wp2_with (at_make; go_must (refine wpList_mk tyI03 (B := w.heap.size) (n := n) rfl rfl rfl rfl rfl rfl (Nat.le_refl _) (by omega) ?_; intro w3 hown3 hg3; have hb3 := below_of_grown hg3))
  clear hg3
  go_loopw [11] (fun iv wr => ∃ (k : Nat) (l : List Int), iv = .int .i64 k ∧ k ≤ n ∧ Hid (l.take k = e.take k) ∧ l.length = n ∧ Own wr w.heap.size 3 (some ⟨w.heap.size, 0, none⟩) n l ∧ Below w.heap.size w wr) (fun iv _ => n - (intOf iv).toNat)
  case atStart => exact ⟨0, List.replicate n 0, rfl, by omega, rfl, by simp, hown3, hb3⟩
  case round =>
    obtain ⟨k, l, rfl, hk, htk, hll, hown, hb⟩ := hrel
    by_cases hlt : k < n
    · have hk0 : (0 : Int) ≤ (k : Int) := by omega
      have hk1 : (k : Int) < (n : Int) := by omega
      obtain ⟨x, hx⟩ : ∃ x, e[k]? = some x := ⟨_, List.getElem?_eq_getElem (by rw [← HN.out]; exact hlt)⟩
      have hxr := HI.out x (List.mem_of_getElem? hx)
      obtain ⟨p, rfl⟩ : ∃ p : Nat, x = p := ⟨x.toNat, by omega⟩
      obtain ⟨c1, c2⟩ := key_at HI.out hx
      obtain ⟨u, hu⟩ : ∃ u : UInt8, u = UInt8.ofNat (p / 256) := ⟨_, rfl⟩
      obtain ⟨v, hv⟩ : ∃ v : UInt8, v = UInt8.ofNat (p % 256) := ⟨_, rfl⟩
      rw [← hu] at c1
      rw [← hv] at c2
      have i1 := fun W => HK.out _ _ W c1
      have i2 := fun W => HK.out _ _ W c2
      rw [show ((2 * k : Nat) : Int) = 2 * (k : Int) by omega] at i1
      rw [show ((2 * k + 1 : Nat) : Int) = 2 * (k : Int) + 1 by omega] at i2
      have hun : (u.toNat : Int) = (p : Int) / 256 := by rw [hu, UInt8.toNat_ofNat']; omega
      have hvn : (v.toNat : Int) = (p : Int) % 256 := by rw [hv, UInt8.toNat_ofNat']; omega
      have HUN := hide hun
      have HVN := hide hvn
      have hfz := hown.frozen k
      obtain ⟨z, zu, hz1, hz2, hz3⟩ := hown.cell1 (i := k) (by omega) rfl
      have hzu : zu = .int .i64 z := by simpa [Flat.enc] using hz2.symm
      subst hzu
      obtain ⟨e1, e2, e3, e4⟩ := two_join (u := u.toNat) (v := v.toNat) (p := p) (by omega) (by omega) (by omega)
      have hown2 := (hown.drew).set1 k (p : Int) (.int .i64 (p : Int)) rfl
      have HT2 : Hid ((l.set k (p : Int)).take (k + 1) = e.take (k + 1)) := by
        show _ = _
        rw [List.take_add_one, List.take_add_one, hx, List.take_set_of_le (Nat.le_refl _), htk.out, List.getElem?_set_self (by omega)]
      clear hx c1 c2 hu hv hun hvn hz1 hz2
      go_wp2
      go_region
      go_wp2
      go_roundw
      case rel => exact ⟨k + 1, _, by go_num, by omega, HT2.out, by simpa using hll, hown2, (below_drawn _ _ 1 |> hb.trans).setCell (p := ⟨w.heap.size, k, none⟩) (Nat.le_refl _) _⟩
      case measure => simp [intOf]; omega
    · obtain rfl : k = n := by omega
      have hle : l = e := by
        have := htk.out
        rw [List.take_of_length_le (by omega), List.take_of_length_le (by rw [← HN.out]; exact Nat.le_refl _)] at this
        exact this
      subst hle
      go_wp2
      go_ret
      exact ⟨_, rfl, hown, hb⟩
end Go.Proofs.YtcamcnahkdiefaaGreat

/- ref03.Make. -/
namespace Go.Proofs.YtcamcnahkdiefaaGreat
set_option linter.unusedVariables false
set_option linter.unusedSimpArgs false
open Go.RowKit
def PolyOut (V : Int) (L : List Tm) (E : Int) (w : World) (e : Ending) (w' : World) : Prop :=
  ∃ a n c, e = .returned (.tuple #[.agg #[.int .i64 V, .slice a n c], .int .i64 E]) ∧ TOut (fun q => w.heap.size ≤ q) w' a n c L ∧ Below w.heap.size w w'
theorem PolyOut.bad (E : Int) (w w' : World) (hb : Below w.heap.size w w') : PolyOut 0 [] E w (.returned (.tuple #[.agg #[.int .i64 0, .slice none 0 0], .int .i64 E])) w' := ⟨none, 0, 0, rfl, TOut.nil _ _, hb⟩
def rightL (vars : Int) (l : List Tm) : Bool := l.all fun t => rightT vars t.2
def mkE (vars : Int) (l : List Tm) : Int := if vars < 0 ∨ 64 < vars then 2 else if rightL vars l = false then 2 else if 4096 < (sortT l).length then 20 else 0
def mkV (vars : Int) (l : List Tm) : Int := if mkE vars l = 0 then vars else 0
def mkL (vars : Int) (l : List Tm) : List Tm := if mkE vars l = 0 then sortT l else []
theorem mkE_bad {vars : Int} (h : vars < 0 ∨ 64 < vars) (l : List Tm) : mkE vars l = 2 := by unfold mkE; rw [if_pos h]
theorem mk_bad {vars : Int} (h : vars < 0 ∨ 64 < vars) (l : List Tm) : mkE vars l = 2 ∧ mkV vars l = 0 ∧ mkL vars l = [] := by
  have e := mkE_bad h l
  exact ⟨e, by unfold mkV; rw [e]; rfl, by unfold mkL; rw [e]; rfl⟩
theorem rightL_step {vars : Int} {l : List Tm} {k : Nat} {t : Tm} (h : l[k]? = some t) : rightL vars (l.drop k) = (rightT vars t.2 && rightL vars (l.drop (k + 1))) := by
  rw [drop_at h]; rfl
theorem rightL_len {vars : Int} {l : List Tm} (h : rightL vars l = true) : LenT vars.toNat l := fun t ht => by
  have := List.all_eq_true.1 h t ht
  have := rightT_len this
  omega
end Go.Proofs.YtcamcnahkdiefaaGreat

/- poly.heap: what a map holds, and what is put into it. -/
namespace Go.Proofs.YtcamcnahkdiefaaGreat
set_option linter.unusedVariables false
set_option linter.unusedSimpArgs false
open Go.RowKit Go.Maps
theorem lawS : Keyed Tryz.prog 9 := string_keyed Tryz.underlying9
theorem zeroU (w : World) : (zeroValue 50).run Tryz.prog w = .ok (.int .u64 0) w := by kernel_rfl
theorem hkeyS {x : List UInt8} (h : x.length ≤ maxLen) : keyOf Tryz.prog 9 (.string ⟨x.toArray⟩) = some (.string x) := by
  have := Go.WideMaps.keyOf_string_mk (P := Tryz.prog) (s := ⟨x.toArray⟩) Tryz.underlying9 (by simpa [ByteArray.size] using h)
  simpa using this
theorem wfU (x : UInt64) : (Lit.int .u64 (x.toNat : Int)).wf = true := WalkArith.wf_u64 (by have := x.toNat_lt; omega)
theorem lit_u64 {H : Type} {a b : Int} (h : (DataW.lit (.int .u64 a) : DataW H) = .lit (.int .u64 b)) : a = b := by injection h with h; injection h
structure HeapM (w : World) (g : Nat) (vars : Int) (k : Nat) (D : DMap) : Prop where
  v : Blk w g 3 #[.int .i64 vars]
  t : Blk w (g + 2) 194 #[.map (some (g + 1))]
  m : w.ownsMap Tryz.prog 9 (plainElem Tryz.prog 50) (g + 1) k D
theorem HeapM.grown {w w' : World} {g : Nat} {vars : Int} {k : Nat} {D : DMap} {row : Option Nat} (h : HeapM w g vars k D) (hg : w.grownBy w' row) (h0 : ∀ j, row = some j → j ≠ g ∧ j ≠ g + 1 ∧ j ≠ g + 2) : HeapM w' g vars k D :=
  ⟨h.v.grown hg (fun e => (h0 g e.symm).1 rfl), h.t.grown hg (fun e => (h0 (g + 2) e.symm).2.2 rfl), h.m.kept hg (fun e => (h0 (g + 1) e.symm).2.1 rfl)⟩
theorem HeapM.belowN {w w' : World} {g : Nat} {vars : Int} {k : Nat} {D : DMap} (h : HeapM w g vars k D) (hb : Below w.heap.size w w') : HeapM w' g vars k D :=
  h.grown (grown_of_below hb none) (fun j e => by cases e)
def HeapT (w : World) (g : Nat) (vars : Int) (n : Nat) (l : List Tm) : Prop := ∃ D, HeapM w g vars l.length D ∧ HeapIs n D l
theorem HeapT.grown {w w' : World} {g : Nat} {vars : Int} {n : Nat} {l : List Tm} {row : Option Nat} (h : HeapT w g vars n l) (hg : w.grownBy w' row) (h0 : ∀ j, row = some j → j ≠ g ∧ j ≠ g + 1 ∧ j ≠ g + 2) : HeapT w' g vars n l := by
  obtain ⟨D, h1, h2⟩ := h
  exact ⟨D, h1.grown hg h0, h2⟩
theorem HeapT.belowN {w w' : World} {g : Nat} {vars : Int} {n : Nat} {l : List Tm} (h : HeapT w g vars n l) (hb : Below w.heap.size w w') : HeapT w' g vars n l :=
  h.grown (grown_of_below hb none) (fun j e => by cases e)
theorem HeapT.lt {w : World} {g : Nat} {vars : Int} {n : Nat} {l : List Tm} (h : HeapT w g vars n l) : g + 2 < w.heap.size := by
  obtain ⟨D, h1, _⟩ := h
  exact h1.t.lt
abbrev putF (g : Nat) : Value := .func (.func 117) #[] #[.pointer (some ⟨g + 2, 0, none⟩)]
abbrev allF (g : Nat) : Value := .func (.func 119) #[] #[.pointer (some ⟨g + 2, 0, none⟩), .pointer (some ⟨g, 0, none⟩)]
set_option maxHeartbeats 800000 in
theorem Heap_calls (n : Nat) (vars : Int) (w : World) :
    Calls Tryz.prog 73 #[.int .i64 vars] w fun v w' => v = .returned (.tuple #[putF w.heap.size, allF w.heap.size]) ∧ HeapT w' w.heap.size vars n [] ∧ Below w.heap.size w w' := by
  have hmm := @run_makeMap Tryz.prog
  go_enter Tryz.func73, Tryz.ntmps73
  go_wp2
  go_ret2
  have hz : (w.alloc (.cells #[.int .i64 vars] 3)).heap.size = w.heap.size + 1 := by simp
  refine ⟨rfl, ?_, ?_⟩
  · have h0 := Blk.new w 3 #[.int .i64 vars]
    have h1 := World.ownsMap_made (w.alloc (.cells #[.int .i64 vars] 3)) Tryz.prog 9 (plainElem (H := Unit) Tryz.prog 50)
    have h2 := Blk.new ((w.alloc (.cells #[.int .i64 vars] 3)).alloc (.map #[] 0)) 194 #[.map (some (w.heap.size + 1))]
    rw [hz] at h1
    have hz2 : ((w.alloc (.cells #[.int .i64 vars] 3)).alloc (.map #[] 0)).heap.size = w.heap.size + 2 := by simp
    rw [hz2] at h2
    exact ⟨_, ⟨(h0.alloc _).alloc _, h2, h1.alloc _⟩, HeapIs.nil n⟩
  · exact (((Below.refl _ _).alloc (Nat.le_refl _) _).alloc (by simp) _).alloc (by simp; omega) _
set_option maxRecDepth 100000 in
set_option maxHeartbeats 1600000 in
theorem Put_calls (w : World) (g : Nat) (vars : Int) (n : Nat) (l : List Tm) (hH : HeapT w g vars n l) (hl : l.length ≤ 1000000000) (t : Tm) (ea : Option Addr) (en ec : Nat) (hen : en = t.2.length) (hn : t.2.length = n) (hn6 : n ≤ 1000000) (hi : InE t.2) (hat : At w ea t.2) :
    Calls Tryz.prog 117 #[.int .u64 (t.1.toNat : Int), .slice ea en ec, .pointer (some ⟨g + 2, 0, none⟩)] w fun v w' => v = .returned (.tuple #[]) ∧ HeapT w' g vars n (l ++ [t]) ∧ w.grownBy w' (some (g + 1)) := by
  obtain ⟨D, hM, hI⟩ := hH
  obtain ⟨m0, m1⟩ := hM.t.c1
  have HK := hide (fun (W : World) (k : Below w.heap.size w W) => Key_calls ea en ec t.2 hen W (hat.belowN k) hi (by omega))
  obtain ⟨x, hx⟩ : ∃ x, keyB t.2 = x := ⟨_, rfl⟩
  have hxl : x.length ≤ maxLen := by rw [← hx, keyB_len]; unfold maxLen; omega
  have hkey := hide (hkeyS hxl)
  obtain ⟨o, ho⟩ : ∃ o, lin (dlt t.2) l = o := ⟨_, rfl⟩
  obtain ⟨S, hS⟩ : ∃ S, o + t.1 = S := ⟨_, rfl⟩
  have hadd := u64_add o t.1
  rw [hS] at hadd
  have HP := hide (hI.put hM.m.isMap hn hi (c := S) (by rw [ho, hS]))
  have HAT := hide (hI.at_ t.2 hn hi)
  rw [hx] at HK HP HAT
  rw [ho] at HAT
  have hBw := Below.drew (Below.refl w.heap.size w)
  have hmm := hM.m.kept (grown_of_below hBw none) (by simp)
  have HL : Hid (l.length < maxLen) := by show _ < _; unfold maxLen; omega
  have HM := hide hM
  clear hx ho hS hI hM hen hn
  go_enter Tryz.func117, Tryz.ntmps117
  go_wp2
  go_region_held3 (fun w' => w'.cell? ⟨g + 2, 0, none⟩ = some (.map (some (g + 1)))) (go_keep)
    ((go_at_call 118; go_must ((with_reducible refine (HK.out _ hBw).mono ?_); rintro v w5 ⟨rfl, hb5⟩; have hB5 := hBw.trans (hb5.mono hBw.size); have o0 := cell_later hB5 m0; have hm5 := hmm.kept (grown_of_below hb5 none) (by simp); obtain ⟨c0, hlk, hc0, _⟩ := hm5.lookup_int lawS Tryz.underlying194 Tryz.underlying50 (zeroU _) hkey.out; obtain rfl : c0 = (o.toNat : Int) := lit_u64 (hc0.symm.trans HAT.out); obtain ⟨w6, hup, hm6, hg6⟩ := hm5.update lawS Tryz.underlying194 HL.out hkey.out (plainElem_int Tryz.underlying50 (wfU S)); have o1 := hg6.cell o0 (by simp); clear hc0)))
  go_end0
  have hgw : w.grownBy w6 (some (g + 1)) := grown_trans (grown_of_below hB5 _) hg6
  refine ⟨rfl, ⟨_, ⟨HM.out.v.grown hgw (by simp), HM.out.t.grown hgw (by simp), ?_⟩, HP.out⟩, hgw⟩
  rw [List.length_append]; exact hm6
end Go.Proofs.YtcamcnahkdiefaaGreat

/- poly.heap: what comes of a map. -/
namespace Go.Proofs.YtcamcnahkdiefaaGreat
set_option linter.unusedVariables false
set_option linter.unusedSimpArgs false
open Go.RowKit Go.Maps
theorem tyS : Ty Tryz.prog 196 9 (List UInt8) := Ty.of (z := .string ⟨#[]⟩) (size := 1) (bytes := 16) Tryz.underlying196 (by kernel_rfl) rfl (by decide) rfl
theorem own_ne_iter {H : Type} {P : Program} {k : TypeId} {R : Value → Option (DataW H × List MemPlace)} {w : World} {b r n : Nat} {D : DataW H} {left : Lit → Bool} {cnt base : Nat} {e : TypeId} {a : Option Addr} {c : Nat} {ss : List (List UInt8)}
    (h : Own w base e a c ss) (hr : w.ranges P k R b r n D left cnt) : some r ≠ a.map (·.block) := by
  have := row_ne_iter h.str hr
  cases a <;> exact this
theorem own_ne_low {w : World} {base : Nat} {e : TypeId} {a : Option Addr} {c : Nat} {α : Type} [Flat α] {ss : List α} (h : Own w base e a c ss) {b : Nat} (hb : b < base) : some b ≠ a.map (·.block) := fun e => by
  have := (h.blk b e.symm).1
  omega
theorem owns_size {H : Type} {P : Program} {k : TypeId} {R : Value → Option (DataW H × List MemPlace)} {w : World} {b n : Nat} {D : DataW H} (h : w.ownsMap P k R b n D) : Maps.size D ≤ n := by
  obtain ⟨es, clock, hb, F, hs, rfl⟩ := h
  rw [Maps.size_eq, length_read]
  exact hs
theorem At.getS {w wr : World} {a : Option Addr} {l : List (List UInt8)} (h : At w a l) (hb : Below w.heap.size w wr) {k : Nat} (hk : k < l.length) :
    ∃ b off x, a = some ⟨b, off, none⟩ ∧ Hid (l[k]? = some x) ∧ wr.cell? ⟨b, off + k, none⟩ = some (.string ⟨x.toArray⟩) := by
  obtain ⟨b, off, x, e, hx, hc⟩ := (h.belowN hb).get hk
  exact ⟨b, off, x, e, hx, by simpa [Flat.n] using hc 0 _ rfl⟩
theorem OwnT.setCell {P : Nat → Prop} {w : World} {B : Nat} {a : Option Addr} {c : Nat} {hs : List TmH} {ts : List Tm} (h : OwnT P w B a c hs ts) {g i : Nat} (u : Value) (hg : ¬ P g) (hB : g < B) : OwnT P (w.setCell ⟨g, i, none⟩ u) B a c hs ts :=
  ⟨h.out.setCell hB u, h.len, fun j y t e1 e2 => (h.row j y t e1 e2).grown (grown_setCell w g i u) (fun hne e => hg ((h.far j y t e1 e2 hne).2 g e)), h.far⟩
theorem owns_below {H : Type} {P : Program} {k : TypeId} {R : Value → Option (DataW H × List MemPlace)} {w w' : World} {b n B : Nat} {D : DataW H} (h : w.ownsMap P k R b n D) (hb : Below B w w') (hB : b < B) : w'.ownsMap P k R b n D := by
  obtain ⟨es, clock, h1, F, hs, hD⟩ := h
  exact ⟨es, clock, (hb.block b hB).trans h1, F, hs, hD⟩
theorem HeapM.below {B : Nat} {w w' : World} {g : Nat} {vars : Int} {k : Nat} {D : DMap} (h : HeapM w g vars k D) (hb : Below B w w') (hB : g + 2 < B) : HeapM w' g vars k D :=
  ⟨h.v.below hb (by omega), h.t.below hb hB, owns_below h.m hb (by omega)⟩
def allE (l : List Tm) : Int := if 4096 < (sortT l).length then 20 else 0
def allV (vars : Int) (l : List Tm) : Int := if allE l = 0 then vars else 0
def allL (l : List Tm) : List Tm := if allE l = 0 then sortT l else []
set_option maxRecDepth 100000 in
set_option maxHeartbeats 6400000 in
theorem All_calls (w : World) (g : Nat) (vars : Int) (n : Nat) (l : List Tm) (hH : HeapT w g vars n l) (hl : l.length ≤ 100000000) (hlen : LenT n l) (hin : ∀ t ∈ l, InE t.2) (hn6 : n ≤ 1000000) (V : Int) (L : List Tm) (E : Int) (hV : allV vars l = V) (hL : allL l = L) (hE : allE l = E) :
    Calls Tryz.prog 119 #[.pointer (some ⟨g + 2, 0, none⟩), .pointer (some ⟨g, 0, none⟩)] w (PolyOut V L E w) := by
  obtain ⟨D, hM, hI⟩ := hH
  obtain ⟨m0, m1⟩ := hM.t.c1
  obtain ⟨v0, v1⟩ := hM.v.c1
  have hgl := hM.t.lt
  have hb0 := below_box w (.cells #[.int .i64 0, .slice none 0 0] 42)
  have hX := Blk.new w 42 #[.int .i64 0, .slice none 0 0]
  have hM0 := hM.belowN hb0
  have hsz : Maps.size D ≤ l.length := owns_size hM.m
  have HI := hide hI
  have HIN := hide hin
  have HLN := hide hlen
  have m2 := cell_later hb0 m0
  have v2 := cell_later hb0 v0
  unfold allV at hV
  unfold allL at hL
  rw [hE] at hV hL
  unfold allE at hE
  have HE := hide hE
  have HM := hide hM
  have HM0 := hide hM0
  clear hE hI hin hlen hM hM0
  go_enter Tryz.func119, Tryz.ntmps119
  go_wp2_with (at_range; go_must (refine wpList_range_own _ rfl _ 194 rfl 9 50 lawS Tryz.underlying194 _ (g + 1) l.length D rfl HM0.out.m ?_; intro w0 hrg0 hg0 hs0))
  go_frame
  obtain ⟨r, hr⟩ : ∃ r, r = (w.alloc (.cells #[.int .i64 0, .slice none 0 0] 42)).heap.size := ⟨_, rfl⟩
  rw [← hr] at hrg0 ⊢
  have hrz : w.heap.size < r := by rw [hr]; simp
  have hbg0 := hb0.trans ((below_of_grown hg0).mono hb0.size)
  have HZ0 := hide (show r < w0.heap.size by rw [hs0, hr]; omega)
  have hX0 := hX.belowN (below_of_grown hg0)
  clear hr hs0 hg0 hX
  go_loopw [4] (fun kv wr => ∃ (left : Lit → Bool) (cnt m kc : Nat) (ka : Option Addr) (ss : List (List UInt8)), kv = .slice ka m kc ∧ Hid (m = ss.length) ∧ wr.ranges Tryz.prog 9 (plainElem Tryz.prog 50) (g + 1) r l.length D left cnt ∧ ss.length + cnt ≤ Maps.size D ∧
      Own wr (w.heap.size + 1) 9 ka kc ss ∧ CollNZ D left ss ∧ Below (w.heap.size + 1) w0 wr ∧ Below w.heap.size w wr) (fun _ wr => wr.rangeLeft (g + 1) r)
  case atStart => exact ⟨_, _, 0, 0, none, [], rfl, rfl, hrg0, by simp, Own.none _ _ _, CollNZ.start D, Below.refl _ _, hbg0⟩
  case round =>
    obtain ⟨left, cnt, m, kc, ka, ss, rfl, hm, hrg, hcs, hown, hC, hbx, hb⟩ := hrel
    have hzr := hb.size
    have hzr1 : w.heap.size + 1 ≤ wr.heap.size := by have := hbx.size; have := HZ0.out; omega
    go_wp2_with (at_next; go_must (refine wpList_next_ranges _ rfl _ rfl 9 lawS (plainElem Tryz.prog 50) encStr (Value.int .u64) (fun key kl hk => by obtain ⟨x, hx, _⟩ := Maps.keyOf_str Tryz.underlying9 hk; exact ⟨x, hx⟩) (fun v y hv => by obtain ⟨c, rfl, _⟩ := plainElem_int_inv Tryz.underlying50 hv; exact ⟨c, rfl⟩) (g + 1) r l.length _ _ _ rfl hrg ?_ ?_))
    · intro hc0 hl0
      have HO := hide (heap_out HI.out HLN.out HIN.out hC hl0)
      have hsl : m = (sortT l).length := by rw [hm.out, ← HO.out, outT_len]
      have hE := HE.out
      rw [← hsl] at hE
      have HSL := hide hsl
      have hXr := hX0.below hbx (Nat.lt_succ_self _)
      have HMr : Hid (HeapM wr g vars l.length D) := hide ⟨HM.out.v.belowN hb, HM.out.t.belowN hb, hrg.owns⟩
      have hkk : ∀ x ∈ ss, ∃ e, e.length = n ∧ InE e ∧ x = keyB e := fun x hx => HI.out.keys x ((hC.2 x).1 hx).1
      have HKK := hide hkk
      obtain ⟨x0, x1, x2, x3⟩ := hXr.c2
      clear hsl hkk hC hl0 hc0 hcs
      by_cases hbig : 4096 < m
      · rw [if_pos hbig] at hE
        subst hE
        rw [if_neg (by decide)] at hV hL
        subst hV hL
        have hbg : (4096 : Int) < (m : Int) := by omega
        go_wp2
        have hF6 := (hXr.set_ 0 (.int .i64 0)).set_ 1 (.slice none 0 0)
        refine bodyPost_ret (results_rowP rfl _ _ (w.heap.size) _ #[.int .i64 0, .slice none 0 0] (0, 0) _ rfl hF6 Tryz.underlying42 rfl (by kernel_rfl)) rfl ?_
        exact PolyOut.bad _ _ _ ((hb.setCell (p := ⟨w.heap.size, 0, none⟩) (Nat.le_refl _) (.int .i64 0)).setCell (p := ⟨w.heap.size, 1, none⟩) (Nat.le_refl _) (.slice none 0 0))
      · rw [if_neg hbig] at hE
        subst hE
        rw [if_pos rfl] at hV hL
        subst hV hL
        have hbg : ¬ (4096 : Int) < (m : Int) := by omega
        have HS := hide (SortS_calls wr _ _ ka m kc ss hm.out hown (by omega))
        have HR := hide (fun (W : World) (k : Own W (w.heap.size + 1) 9 ka kc (ss.mergeSort leB)) => RevS_calls W _ _ ka m kc _ (by rw [hm.out]; simp) k)
        have hmb : m ≤ 4096 := by omega
        clear hbig
        go_wp2_with (first
          | (go_at_call 120; go_must ((with_reducible refine (HS.out).mono ?_); rintro v wS ⟨rfl, hownS, hgS⟩))
          | (go_at_call 121; go_must ((with_reducible refine (HR.out _ hownS).mono ?_); rintro v wA ⟨rfl, hownA, hgA⟩; have hgSA := grown_trans hgS hgA; have hMA := HMr.out.grown hgSA (fun j hj => by have := (hown.blk j hj).1; omega); obtain ⟨a0, a1⟩ := hMA.v.c1)))
        have hbA := hb.grown hgSA hzr (fun j hj => by have := (hown.blk j hj).1; omega)
        have hzA := hbA.size
        have hXA := hXr.grown hgSA (fun e => by have := (hown.blk _ e.symm).1; omega)
        have hKA := hownA.at_
        have hGP := Blk.new wA 42 #[.int .i64 vars, .slice none 0 0]
        have hbP := below_box wA (.cells #[.int .i64 vars, .slice none 0 0] 42)
        have hgA2 : g + 2 < wA.heap.size := by omega
        have HKL : Hid (m = (downK ss).length) := by show _ = _; rw [hm.out]; simp [downK]
        obtain ⟨gp, hgp⟩ : ∃ gp, gp = wA.heap.size := ⟨_, rfl⟩
        have HGP := hide hgp
        rw [← hgp] at hGP ⊢
        have hgp1 : w.heap.size < gp := by have := hXA.lt; omega
        clear hgSA hgA hgS hownS hownA hgp hX0 hXr x0 x1 x2 x3 hown hbx hrg hrg0
        go_loopw [35] (fun iv wq => ∃ (k c : Nat) (a : Option Addr) (hs : List TmH), iv = .int .i64 k ∧ k ≤ m ∧ Blk wq gp 42 #[.int .i64 vars, .slice a k c] ∧ OwnT (fun q => gp < q) wq (gp + 1) a c hs ((sortT l).take k) ∧ Below wA.heap.size wA wq ∧ gp < wq.heap.size) (fun iv _ => m - (intOf iv).toNat)
        case atStart => exact ⟨0, 0, none, [], rfl, by omega, hGP, OwnT.nil (Own.none _ _ _), hbP, hGP.lt⟩
        case round =>
          obtain ⟨k, c, a, hs, rfl, hk, hG, hOT, hbq, hgq⟩ := hrel
          have hzq := hbq.size
          obtain ⟨g0, g1, g2, g3⟩ := hG.c2
          by_cases hlt : k < m
          · obtain ⟨b1, off1, x, rfl, hx, x0⟩ := hKA.getS hbq (k := k) (show k < (downK ss).length by rw [← HKL.out]; exact hlt)
            have hk0 : (0 : Int) ≤ (k : Int) := by omega
            have hk1 : (k : Int) < (m : Int) := by omega
            obtain ⟨e, he1, he2, he3⟩ := HKK.out x (mem_downK.1 (List.mem_of_getElem? hx.out))
            have htk : (sortT l)[k]? = some (cOf D x, e) := by
              rw [← HO.out]
              unfold outT
              rw [List.getElem?_map, show (downK ss)[k]? = some x from hx.out]
              show some (cOf D x, powB x) = _
              rw [he3, powB_keyB he2]
            obtain ⟨t, ht⟩ : ∃ t : Tm, t = (cOf D x, e) := ⟨_, rfl⟩
            have ht1 : cOf D x = t.1 := by rw [ht]
            have ht2 : e = t.2 := by rw [ht]
            rw [← ht] at htk
            subst ht2
            have HTK := hide (show (sortT l).take (k + 1) = (sortT l).take k ++ [t] by rw [List.take_add_one, htk]; rfl)
            have hMq : HeapM wr g vars l.length D := hMA.belowN hbq
            obtain ⟨q0, q1⟩ := hMq.t.c1
            have hxl : x.length ≤ maxLen := by rw [he3, keyB_len]; unfold maxLen; omega
            have HLK : Hid (∀ W, Below (gp + 1) wr W → (Instr.lookup 194 (.map (some (g + 1))) (.string ⟨x.toArray⟩) false).run Tryz.prog W = .ok (.int .u64 (t.1.toNat : Int)) W) := hide (fun W kb => by
              obtain ⟨c0, hlk, hc0, _⟩ := (hMq.below kb (by omega)).m.lookup_int lawS Tryz.underlying194 Tryz.underlying50 (zeroU _) (hkeyS hxl)
              have h9 := HI.out.at_ t.2 he1 he2
              rw [← he3] at h9
              have h8 := lit_u64 (hc0.symm.trans h9)
              have h7 := HI.out.cOf he1 he2
              rw [← he3, ht1] at h7
              rw [h8, ← h7] at hlk
              exact hlk)
            have HPW := hide (fun W => Powers_calls t.2 ⟨x.toArray⟩ (by rw [he3]) W he2 (by omega))
            have HEN : Hid (t.2.length = n) := hide he1
            obtain ⟨en, hen⟩ : ∃ en, t.2.length = en := ⟨_, rfl⟩
            rw [hen] at HPW
            have HEN2 := hide hen
            have hen6 : en ≤ 9223372036854775807 := by omega
            have hBw := Below.drew (Below.refl wr.heap.size wr)
            have hBw1 : Below (gp + 1) wr wr.drew := hBw.mono (by omega)
            have HHL : Hid (k = hs.length) := by show _ = _; rw [hOT.len, List.length_take, ← HSL.out]; omega
            obtain ⟨S', hS'⟩ : ∃ S' : World → Prop, S' = fun w' => w'.cell? ⟨gp, 1, none⟩ = some (.slice a k c) ∧ w'.cell? ⟨g + 2, 0, none⟩ = some (.map (some (g + 1))) ∧ (Instr.lookup 194 (.map (some (g + 1))) (.string ⟨x.toArray⟩) false).run Tryz.prog w' = .ok (.int .u64 (t.1.toNat : Int)) w' := ⟨_, rfl⟩
            have HSE : Hid (∀ w', S' w' → w'.cell? ⟨gp, 1, none⟩ = some (.slice a k c) ∧ w'.cell? ⟨g + 2, 0, none⟩ = some (.map (some (g + 1))) ∧ (Instr.lookup 194 (.map (some (g + 1))) (.string ⟨x.toArray⟩) false).run Tryz.prog w' = .ok (.int .u64 (t.1.toNat : Int)) w') := hide (fun w' h => by rw [hS'] at h; exact h)
            have HSI : Hid (∀ w4, Below (gp + 1) wr w4 → S' w4) := hide (fun w4 hb4 => by
              rw [hS']
              exact ⟨(hG.below hb4 (Nat.lt_succ_self _)).c2.2.1, (hMq.t.below hb4 (by omega)).c1.1, HLK.out _ hb4⟩)
            have HMG := hide hG
            have HOT := hide hOT
            clear he1 he3 ht ht1 htk hx hen hOT hMq hG hS' q0 q1
            go_wp2
            refine wp_region_list [0, 1, 2, 3, 4, 5] [6, 7, 8, 9] [10, 11] S' (by kernel_rfl) (by kernel_rfl) (HSI.out _ hBw1) ?_
            simp only [pickL, List.filterMap_cons, List.filterMap_nil, List.getElem?_cons_succ, List.getElem?_cons_zero]
            iterate 6
              apply headK_step (by rfl)
              · intro w' hw'
                obtain ⟨s0, s1, s2⟩ := HSE.out w' hw'
                go_simp
                rfl
              intro a' ha'
              simp only [Act.put, List.setIfInBounds_toArray, List.set_cons_succ, List.set_cons_zero] at ha'
              subst ha'
            refine headK_nil ?_
            rw [midK]
            intro K0 hK0
            have HK0 := hide hK0
            clear hK0
            go_simp
            go_at_call 122
            refine (HPW.out _).mono ?_
            rintro v w5 ⟨a5, rfl, hown5, hb5⟩
            have hB5 := hBw.trans (hb5.mono hBw.size)
            have hB51 : Below (gp + 1) wr w5 := hB5.mono (by omega)
            refine HK0.out _ _ (HSI.out _ hB51) ?_
            clear HK0
            rw [midK]
            intro K0 hK0
            have HK0 := hide hK0
            clear hK0
            go_simp
            refine HK0.out _ _ (HSI.out _ hB51) ?_
            clear HK0
            rw [midK]
            intro K0 hK0
            have HK0 := hide hK0
            clear hK0
            go_simp
            have hz5 := hB5.size
            have hbx9 := below_box w5 (.cells #[.int .u64 (t.1.toNat : Int), .slice (some a5) en en] 92)
            have hB9 := hB51.trans (hbx9.mono (show gp + 1 ≤ w5.heap.size by omega))
            refine HK0.out _ _ (HSI.out _ hB9) ?_
            clear HK0
            rw [midK]
            intro K0 hK0
            have HK0 := hide hK0
            clear hK0
            have hO5 := HOT.out.belowN hB5
            have hz9 : gp + 1 ≤ (w5.alloc (.cells #[.int .u64 (t.1.toNat : Int), .slice (some a5) en en] 92)).heap.size := by rw [World.size_alloc]; omega
            refine step_pushAll tyT (hO5.out.alloc _) (l2 := [(⟨t.1, some a5, en, en⟩ : TmH)]) (At.ofBlk (Blk.new w5 _ #[.int .u64 (t.1.toNat : Int), .slice (some a5) en en]) _ rfl) rfl rfl rfl rfl HHL.out rfl hz9 (by omega) (by decide) ?_
            intro a6 c6 w6 hown6 hg6 hcs6
            have hB6 := below_push hB9 (hO5.out.alloc _) hg6 hz9
            refine HK0.out _ _ (HSI.out _ hB6) ?_
            clear HK0 HSE HSI
            rw [midK]
            have hG6 := HMG.out.below hB6 (Nat.lt_succ_self _)
            obtain ⟨s6, s7, s8, s9⟩ := hG6.c2
            have hOT6 := (hO5.belowN hbx9).push hown6 hg6 hcs6 (y := ⟨t.1, some a5, en, en⟩) (t := t) ⟨rfl, HEN2.out.symm, Nat.le_refl _, hen6, (hown5.belowN hbx9).at_⟩ (fun hne => by
              have h7 := (hown5.blk a5.block rfl).1
              have h8 : wr.drew.heap.size = wr.heap.size := rfl
              refine ⟨fun e => ?_, fun q e => ?_⟩
              · have h10 : a5.block < wr.heap.size := (HOT.out.out.blk a5.block e.symm).2
                omega
              · have e9 : a5.block = q := Option.some.inj e
                omega)
            have hF6 := hG6.set_ 1 (.slice a6 (k + 1) c6)
            have hb6 := hbq.trans (hB6.mono (show wA.heap.size ≤ gp + 1 by rw [← HGP.out]; omega))
            go_wp2
            refine NoPanic.normal ?_
            go_wp2
            go_roundw
            case rel =>
              have hOT7 := hOT6.setCell (g := gp) (i := 1) (.slice a6 (k + 1) c6) (by omega) (Nat.lt_succ_self _)
              rw [← HTK.out] at hOT7
              exact ⟨k + 1, c6, a6, _, by go_num, by omega, hF6, hOT7, hb6.setCell (p := ⟨gp, 1, none⟩) (by rw [← HGP.out]; exact Nat.le_refl _) _, by rw [World.size_setCell]; exact hG6.lt⟩
            case measure => simp [intOf]; omega
          · obtain rfl : k = m := by omega
            rw [List.take_of_length_le (by rw [← HSL.out]; exact Nat.le_refl _)] at hOT
            have hXq := hXA.belowN hbq
            obtain ⟨x0, x1, x2, x3⟩ := hXq.c2
            have hbW := hbA.trans (hbq.mono hzA)
            go_wp2
            have hF6 := (hXq.set_ 0 (.int .i64 vars)).set_ 1 (.slice a k c)
            refine bodyPost_ret (results_rowP rfl _ _ (w.heap.size) _ #[.int .i64 vars, .slice a k c] (0, 0) _ rfl hF6 Tryz.underlying42 rfl (by kernel_rfl)) rfl ?_
            have hT := hOT.out_ (n := k) HSL.out
            refine ⟨a, k, c, rfl, ((hT.setCell _ (by omega)).setCell _ (by omega)).imp (fun q hq => by omega), (hbW.setCell (p := ⟨w.heap.size, 0, none⟩) (Nat.le_refl _) _).setCell (p := ⟨w.heap.size, 1, none⟩) (Nat.le_refl _) _⟩
    · intro x c kl yd yp w2 cnt2 hkey hlk hv hat hrg2 hlt hg2 hs2 hen
      obtain ⟨x', ex, rfl, hxl⟩ := Maps.keyOf_str Tryz.underlying9 hkey
      obtain rfl : x = x' := encStr_inj ex
      obtain ⟨c', ec, ey, hwc⟩ := plainElem_int_inv Tryz.underlying50 hv
      injection ec with _ ec
      subst ec
      injection ey with ey _
      subst ey
      have hown2 := hown.grown hg2 (.inr (fun e => own_ne_iter hown hrg e.symm))
      have hb2 := hb.grown hg2 hzr (fun j hj => by cases hj; omega)
      have hbx2 := hbx.grown hg2 (by have := hbx.size; have := HZ0.out; omega) (fun j hj => by cases hj; omega)
      have hz2 := hb2.size
      have hz21 : w.heap.size + 1 ≤ w2.heap.size := by have := hbx2.size; have := HZ0.out; omega
      replace hat : ∀ zd, D.atKey (.string x) zd = .lit (.int .u64 c) := hat
      clear hs2
      by_cases hcz : c = 0
      · have e1 : (c != 0) = false := by simp [hcz]
        have e2 : (c == 0) = true := by simp [hcz]
        have hC2 := hC.out hlk (by rw [hcz] at hat; exact hat)
        clear hcz
        go_wp2
        go_roundw
        case rel => exact ⟨_, cnt2, m, kc, ka, ss, rfl, hm.out, hrg2, by omega, hown2, hC2, hbx2, hb2⟩
        case measure => rw [hrg2.left_eq, hrg.left_eq]; exact hlt
      · have e1 : (c != 0) = true := by simpa using hcz
        have e2 : (c == 0) = false := by simpa using hcz
        have hC2 := hC.in_ hlk hat hcz
        have hm9 : m ≤ 1000000000 := by rw [hm.out]; omega
        clear hcz
        go_wp2_with (at_builtin; go_must (refine wpList_push tyS hown2 x rfl rfl rfl rfl rfl rfl hm.out hz21 hm9 ?_; intro a3 c3 w3 hown3 hg3 hm3; go_frame))
        have hgx : w2.grownBy w3 (ka.map (·.block)) := hg3
        have hrg3 := hrg2.kept hgx (own_ne_low hown2 (by omega)) (own_ne_iter hown2 hrg2)
        go_roundw
        case rel => exact ⟨_, cnt2, m + 1, c3, a3, ss ++ [x], rfl, by show _ = _; rw [List.length_append, ← hm.out]; rfl, hrg3, by rw [List.length_append]; simp; omega, hown3, hC2, below_push hbx2 hown2 hg3 hz21, hb2.grown hg3 hz2 (fun j hj => by have := (hown2.blk j hj).1; omega)⟩
        case measure => rw [hrg3.left_eq, hrg.left_eq]; exact hlt
end Go.Proofs.YtcamcnahkdiefaaGreat

/- Several texts of mine in one file: Pt, Pn, Pu, Pv. -/
/- poly.Make. -/
namespace Go.Proofs.YtcamcnahkdiefaaGreat
set_option linter.unusedVariables false
set_option linter.unusedSimpArgs false
open Go.RowKit Go.Maps
theorem mk_ok {vars : Int} {l : List Tm} (h : ¬ (vars < 0 ∨ 64 < vars)) (hr : rightL vars l = true) : mkE vars l = allE l ∧ mkV vars l = allV vars l ∧ mkL vars l = allL l := by
  have e : mkE vars l = allE l := by unfold mkE allE; rw [if_neg h, hr]; rfl
  exact ⟨e, by unfold mkV allV; rw [e], by unfold mkL allL; rw [e]⟩
theorem mk_wrong {vars : Int} {l : List Tm} (h : ¬ (vars < 0 ∨ 64 < vars)) (hr : rightL vars l = false) : mkE vars l = 2 ∧ mkV vars l = 0 ∧ mkL vars l = [] := by
  have e : mkE vars l = 2 := by unfold mkE; rw [if_neg h, if_pos hr]
  exact ⟨e, by unfold mkV; rw [e]; rfl, by unfold mkL; rw [e]; rfl⟩
theorem rightL_in {vars : Int} {l : List Tm} (h : rightL vars l = true) : ∀ t ∈ l, InE t.2 := fun t ht => rightT_in (List.all_eq_true.1 h t ht)
theorem LenT.of_right {vars : Int} {l : List Tm} (h : ∀ t ∈ l, rightT vars t.2 = true) : LenT vars.toNat l := fun t ht => by have := rightT_len (h t ht); omega
theorem PolyOut.stored {w wc w5 : World} {g : Nat} {V E : Int} {L : List Tm} {a : Option Addr} {n c : Nat} (hb : Below w.heap.size w w5) (hT : TOut (fun q => wc.heap.size ≤ q) w5 a n c L) (h1 : w.heap.size ≤ g) (h2 : g < wc.heap.size) (h3 : w.heap.size ≤ wc.heap.size) :
    PolyOut V L E w (.returned (.tuple #[.agg #[.int .i64 V, .slice a n c], .int .i64 E])) ((w5.setCell ⟨g, 0, none⟩ (.int .i64 V)).setCell ⟨g, 1, none⟩ (.slice a n c)) :=
  ⟨a, n, c, rfl, ((hT.setCell _ (by omega)).setCell _ (by omega)).imp fun q hq => by omega, (hb.setCell (p := ⟨g, 0, none⟩) h1 _).setCell (p := ⟨g, 1, none⟩) h1 _⟩
set_option maxRecDepth 100000 in
set_option maxHeartbeats 6400000 in
theorem PMake_calls (P : Nat → Prop) (vars : Int) (a : Option Addr) (n c : Nat) (ts : List Tm) (w : World) (h : TOut P w a n c ts) (hl : n ≤ 100000000) (hll : ∀ t ∈ ts, t.2.length ≤ 1000000) (V : Int) (L : List Tm) (E : Int) (hV : mkV vars ts = V) (hL : mkL vars ts = L) (hE : mkE vars ts = E) :
    Calls Tryz.prog 84 #[.int .i64 vars, .slice a n c] w (PolyOut V L E w) := by
  have hb0 := below_box w (.cells #[.int .i64 0, .slice none 0 0] 42)
  have hX := Blk.new w 42 #[.int .i64 0, .slice none 0 0]
  by_cases hv : vars < 0 ∨ 64 < vars
  case pos =>
    obtain ⟨q1, q2, q3⟩ := mk_bad hv ts
    rw [q1] at hE
    rw [q2] at hV
    rw [q3] at hL
    subst hE hV hL
    by_cases h1 : vars < 0
    · go_enter Tryz.func84, Tryz.ntmps84
      go_wp2
      refine bodyPost_ret (results_rowP rfl _ _ (w.heap.size) _ #[.int .i64 0, .slice none 0 0] (0, 0) _ rfl hX Tryz.underlying42 rfl (by kernel_rfl)) rfl ?_
      exact PolyOut.bad _ _ _ hb0
    · have h2 : 64 < vars := by omega
      go_enter Tryz.func84, Tryz.ntmps84
      go_wp2
      refine bodyPost_ret (results_rowP rfl _ _ (w.heap.size) _ #[.int .i64 0, .slice none 0 0] (0, 0) _ rfl hX Tryz.underlying42 rfl (by kernel_rfl)) rfl ?_
      exact PolyOut.bad _ _ _ hb0
  case neg =>
    have h1 : ¬ vars < 0 := by omega
    have h2 : ¬ 64 < vars := by omega
    have HN := hide h.len
    have HLL := hide hll
    have HV := hide hV
    have HL := hide hL
    have HE := hide hE
    have HNV := hide hv
    obtain ⟨Q, hQ⟩ : ∃ Q, rightL vars ts = Q := ⟨_, rfl⟩
    have HQ0 := hide hQ
    have HQ : Hid (rightL vars (ts.drop 0) = Q) := hQ
    have HP0 : Hid (rightL vars (ts.take 0) = true) := rfl
    have hat := h.at_.belowN hb0
    have hh := Heap_calls vars.toNat vars (w.alloc (.cells #[.int .i64 0, .slice none 0 0] 42))
    obtain ⟨g, hg⟩ : ∃ g, (w.alloc (.cells #[.int .i64 0, .slice none 0 0] 42)).heap.size = g := ⟨_, rfl⟩
    rw [hg] at hh
    have HH := hide hh
    have hgw : w.heap.size < g := by rw [← hg, World.size_alloc]; omega
    have HG := hide hg
    clear hE hV hL hll hv hQ hh hg
    go_enter Tryz.func84, Tryz.ntmps84
    go_wp2_with (go_at_call 73; go_must ((with_reducible refine (HH.out).mono ?_); rintro v w1 ⟨rfl, hH1, hb1'⟩; have hb1 := HG.out ▸ hb1'; have hB1 := hb0.trans (hb1.mono hb0.size); have hX1 := hX.belowN hb1; have hat1 := hat.belowN hb1; have hz1 := hH1.lt))
    clear HH hb1' hX
    go_loopw [24] (fun iv wr => ∃ k : Nat, iv = .int .i64 k ∧ k ≤ n ∧ Hid (rightL vars (ts.drop k) = Q) ∧ Hid (rightL vars (ts.take k) = true) ∧ HeapT wr g vars vars.toNat (ts.take k) ∧ Below g w1 wr) (fun iv _ => n - (intOf iv).toNat)
    case atStart => exact ⟨0, rfl, by omega, HQ.out, HP0.out, hH1, Below.refl _ _⟩
    case round =>
      obtain ⟨k, rfl, hk, hQk, hPk, hH, hbr⟩ := hrel
      have hbX := hb1.trans (hbr.mono (show (w.alloc (.cells #[.int .i64 0, .slice none 0 0] 42)).heap.size ≤ g by rw [HG.out]; exact Nat.le_refl _))
      have hzr := hH.lt
      have hXr := hX1.below hbr hgw
      have hBr := hB1.trans (hbr.mono (Nat.le_of_lt hgw) |>.mono (Nat.le_refl _))
      obtain ⟨x0, x1, x2, x3⟩ := hXr.c2
      by_cases hlt : k < n
      · obtain ⟨b1, off1, t, ea, en, ec, rfl, ht, t0, t1, hrow, hfar⟩ := hat.getF hbX (k := k) (by rw [← HN.out]; exact hlt)
        have hQ2 := hQk.out
        rw [rightL_step ht.out] at hQ2
        have hk0 : (0 : Int) ≤ (k : Int) := by omega
        have hk1 : (k : Int) < (n : Int) := by omega
        have hen : en = t.2.length := hrow.out.2.1
        have hen6 : en ≤ 1000000 := by rw [hen]; exact HLL.out t (List.mem_of_getElem? ht.out)
        have hbx := below_box wr (.cells #[.int .u64 (t.1.toNat : Int), .slice ea en ec] 92)
        obtain ⟨r0, r1, r2, r3⟩ := (Blk.new wr 92 #[.int .u64 (t.1.toNat : Int), .slice ea en ec]).c2
        obtain ⟨R, hR⟩ : ∃ R, rightT vars t.2 = R := ⟨_, rfl⟩
        have hea := hrow.out.2.2.2.2.belowN hbx
        have HR := hide (PRight_calls vars ea en ec t.2 hen _ hea hen6 R hR)
        rw [hR] at hQ2
        obtain ⟨z0, z1, z2, z3⟩ := (hXr.belowN hbx).c2
        cases R with
        | false =>
          have hQF : Q = false := by rw [← hQ2]; rfl
          subst hQF
          obtain ⟨q1, q2, q3⟩ := mk_wrong HNV.out HQ0.out
          have hV := HV.out; have hL := HL.out; have hE := HE.out
          rw [q1] at hE
          rw [q2] at hV
          rw [q3] at hL
          subst hE hV hL
          have hF6 := ((hXr.belowN hbx).set_ 0 (.int .i64 0)).set_ 1 (.slice none 0 0)
          clear hQ2 hR ht hen q1 q2 q3
          go_wp2_with (go_at_call 99; go_must ((with_reducible refine (HR.out).mono ?_); rintro v w5 ⟨rfl, rfl⟩))
          refine bodyPost_ret (results_rowP rfl _ _ (w.heap.size) _ #[.int .i64 0, .slice none 0 0] (0, 0) _ rfl hF6 Tryz.underlying42 rfl (by kernel_rfl)) rfl ?_
          have hb4 := hBr.trans (hbx.mono hBr.size)
          exact PolyOut.bad _ _ _ ((hb4.setCell (p := ⟨w.heap.size, 0, none⟩) (Nat.le_refl _) (.int .i64 0)).setCell (p := ⟨w.heap.size, 1, none⟩) (Nat.le_refl _) (.slice none 0 0))
        | true =>
          rw [Bool.true_and] at hQ2
          have HQ2 := hide hQ2
          have HTK := hide (show ts.take (k + 1) = ts.take k ++ [t] by rw [List.take_add_one, ht.out]; rfl)
          have HP2 : Hid (rightL vars (ts.take (k + 1)) = true) := by
            show _ = true
            rw [HTK.out]
            have := hPk.out
            unfold rightL at this ⊢
            rw [List.all_append, this]; simp [hR]
          have hlen := rightT_len hR
          have HPT := hide (Put_calls (wr.alloc (.cells #[.int .u64 (t.1.toNat : Int), .slice ea en ec] 92)) g vars vars.toNat (ts.take k) (hH.belowN hbx) (by rw [List.length_take]; omega) t ea en ec hen (by omega) (by omega) (rightT_in hR) hea)
          clear hQ2 hR ht hen hlen
          go_wp2_with (first
            | (go_at_call 99; go_must ((with_reducible refine (HR.out).mono ?_); rintro v w5 ⟨rfl, rfl⟩))
            | (go_at_call 117; go_must ((with_reducible refine (HPT.out).mono ?_); rintro v w6 ⟨rfl, hH6, hg6⟩)))
          go_roundw
          case rel => exact ⟨k + 1, by go_num, by omega, HQ2.out, HP2.out, by rw [HTK.out]; exact hH6, (hbr.alloc (by omega) _).grown hg6 (by rw [World.size_alloc]; omega) (fun j hj => by cases hj; omega)⟩
          case measure => simp [intOf]; omega
      · obtain rfl : k = n := by omega
        have hP2 := hPk.out
        rw [List.take_of_length_le (by rw [← HN.out]; exact Nat.le_refl _)] at hP2 hH
        obtain ⟨q1, q2, q3⟩ := mk_ok HNV.out hP2
        have HA := hide (All_calls wr g vars vars.toNat ts hH (by rw [← HN.out]; exact hl) (LenT.of_right (List.all_eq_true.1 hP2)) (rightL_in hP2) (by omega) V L E (by rw [← q2, HV.out]) (by rw [← q3, HL.out]) (by rw [← q1, HE.out]))
        clear hP2 q1 q2 q3
        go_wp2_with (go_at_call 119; go_must ((with_reducible refine (HA.out).mono ?_); rintro v w6 ⟨a6, n6, c6, rfl, hT6, hb6⟩; have hX6 := hXr.belowN hb6; obtain ⟨y0, y1, y2, y3⟩ := hX6.c2))
        have hF6 := (hX6.set_ 0 (.int .i64 V)).set_ 1 (.slice a6 n6 c6)
        refine bodyPost_ret (results_rowP rfl _ _ (w.heap.size) _ #[.int .i64 V, .slice a6 n6 c6] (0, 0) _ rfl hF6 Tryz.underlying42 rfl (by kernel_rfl)) rfl ?_
        exact PolyOut.stored (hBr.trans (hb6.mono hBr.size)) hT6 (Nat.le_refl _) hXr.lt hBr.size
end Go.Proofs.YtcamcnahkdiefaaGreat

/- Const and Var of both sides. -/
namespace Go.Proofs.YtcamcnahkdiefaaGreat
set_option linter.unusedVariables false
set_option linter.unusedSimpArgs false
open Go.RowKit
theorem TOut.one {w : World} {g : Nat} {t : Tm} {ea : Option Addr} {en ec : Nat} (hb : Blk w g 92 #[.int .u64 (t.1.toNat : Int), .slice ea en ec]) (hr : TmH.of w ⟨t.1, ea, en, ec⟩ t) : TOut (fun _ => True) w (some ⟨g, 0, none⟩) 1 1 [t] :=
  ⟨rfl, Nat.le_refl _, by decide, AtT.any ⟨[⟨t.1, ea, en, ec⟩], At.ofBlk hb [(⟨t.1, ea, en, ec⟩ : TmH)] rfl, rfl, fun i h s e1 e2 => by
    have hi : i = 0 := by have := (List.getElem?_eq_some_iff.1 e1).1; simp at this; exact this
    subst hi
    simp at e1 e2
    subst e1 e2
    exact hr⟩⟩
theorem TOut.one_ {w : World} {g : Nat} {t : Tm} {ea : Option Addr} {en : Nat} (hb : Blk w g 92 #[.int .u64 (t.1.toNat : Int), .slice ea en en]) (hn : en = t.2.length) (h6 : en ≤ 1000000) (hat : At w ea t.2) : TOut (fun _ => True) w (some ⟨g, 0, none⟩) 1 1 [t] :=
  TOut.one hb ⟨rfl, hn, Nat.le_refl _, by show en ≤ _; omega, hat⟩
def constT (vars : Int) (c : UInt64) : List Tm := [(c, List.replicate vars.toNat 0)]
def varT (vars i : Int) : List Tm := [(1, (List.replicate vars.toNat (0 : Int)).set i.toNat 1)]
def varBad (vars i : Int) : Prop := vars < 0 ∨ 64 < vars ∨ i < 0 ∨ vars ≤ i
instance (vars i : Int) : Decidable (varBad vars i) := by unfold varBad; infer_instance
def varE (vars i : Int) : Int := if varBad vars i then 2 else mkE vars (varT vars i)
def varL (vars i : Int) : List Tm := if varBad vars i then [] else mkL vars (varT vars i)
def varV (vars i : Int) : Int := if varBad vars i then 0 else mkV vars (varT vars i)
set_option maxRecDepth 100000 in
set_option maxHeartbeats 3200000 in
theorem PConst_good (vn : Nat) (h64 : vn ≤ 64) (c : UInt64) (w : World) (V : Int) (L : List Tm) (E : Int) (hV : mkV (vn : Int) (constT (vn : Int) c) = V) (hL : mkL (vn : Int) (constT (vn : Int) c) = L) (hE : mkE (vn : Int) (constT (vn : Int) c) = E) :
    Calls Tryz.prog 111 #[.int .i64 (vn : Int), .int .u64 (c.toNat : Int)] w (PolyOut V L E w) := by
  have hb0 := below_box w (.cells #[.int .i64 0, .slice none 0 0] 42)
  have hX := Blk.new w 42 #[.int .i64 0, .slice none 0 0]
  have HZZ : Hid ((w.alloc (.cells #[.int .i64 0, .slice none 0 0] 42)).heap.size = w.heap.size + 1) := World.size_alloc _ _
  have h1 : ¬ (vn : Int) < 0 := by omega
  have h2 : ¬ 64 < (vn : Int) := by omega
  have h3 : (0 : Int) ≤ (vn : Int) := by omega
  have h4 : (vn : Int) ≤ 64 := by omega
  have h5 : min (vn : Int) 64 = (vn : Int) := by omega
  have hR : (List.replicate (vn : Int).toNat (0 : Int)).length = vn := by simp
  obtain ⟨t, ht1, ht2⟩ : ∃ t : Tm, c = t.1 ∧ t.2 = List.replicate (vn : Int).toNat 0 := ⟨(c, List.replicate (vn : Int).toNat 0), rfl, rfl⟩
  have hcT : constT (vn : Int) c = [t] := by unfold constT; rw [← ht2, ht1]
  rw [hcT] at hV hL hE
  subst ht1
  have HT := hide ht2
  have HMK := hide (fun (W : World) (g : Nat) (k : TOut (fun _ => True) W (some ⟨g, 0, none⟩) 1 1 [t]) => PMake_calls (fun _ => True) (vn : Int) (some ⟨g, 0, none⟩) 1 1 [t] W k (by decide) (fun s hs => by rw [List.mem_singleton.1 hs, HT.out, hR]; omega) V L E hV hL hE)
  have hlen : t.2.length = vn := by rw [ht2, hR]
  have HLN := hide hlen
  rw [Int.toNat_natCast] at HT
  clear hcT ht2 hlen hR hV hL hE
  go_enter Tryz.func111, Tryz.ntmps111
  go_wp2_with (first
    | (at_make; go_must (refine wpList_mk tyI03 (B := (w.alloc (.cells #[.int .i64 0, .slice none 0 0] 42)).heap.size) (n := vn) rfl rfl rfl rfl rfl rfl (Nat.le_refl _) (by omega) ?_; intro w3 hown3 hg3; rw [HZZ.out] at hown3; have hb3 := below_of_grown hg3; have hB3 := hb0.trans (hb3.mono hb0.size); have hX3 := hX.belowN hb3; have hz3 := hb3.size; have hbx := below_box w3 (.cells #[.int .u64 (t.1.toNat : Int), .slice (some ⟨w.heap.size + 1, 0, none⟩) vn vn] 92); have hB4 := hB3.trans (hbx.mono hB3.size); have hX4 := hX3.belowN hbx))
    | (go_at_call 84; go_must ((refine (HMK.out _ _ (TOut.one_ (Blk.new w3 _ #[.int .u64 (t.1.toNat : Int), .slice _ vn vn]) HLN.out.symm (by omega) (by rw [HT.out]; exact (hown3.alloc _).at_))).mono ?_); rintro v w5 ⟨a5, n5, c5, rfl, hT5, hb5⟩; have hB5 := hB4.trans (hb5.mono hB4.size); have hX5 := hX4.belowN hb5; obtain ⟨x0, x1, x2, x3⟩ := hX5.c2)))
  have hF6 := (hX5.set_ 0 (.int .i64 V)).set_ 1 (.slice a5 n5 c5)
  refine bodyPost_ret (results_rowP rfl _ _ (w.heap.size) _ #[.int .i64 V, .slice a5 n5 c5] (0, 0) _ rfl hF6 Tryz.underlying42 rfl (by kernel_rfl)) rfl ?_
  exact PolyOut.stored hB5 hT5 (Nat.le_refl _) (by rw [World.size_alloc] at hz3; rw [World.size_alloc]; omega) (by rw [World.size_alloc] at hz3; rw [World.size_alloc]; omega)
set_option maxRecDepth 100000 in
set_option maxHeartbeats 3200000 in
theorem PVar_calls (vars i : Int) (w : World) (V : Int) (L : List Tm) (E : Int) (hV : varV vars i = V) (hL : varL vars i = L) (hE : varE vars i = E) :
    Calls Tryz.prog 41 #[.int .i64 vars, .int .i64 i] w (PolyOut V L E w) := by
  have hb0 := below_box w (.cells #[.int .i64 0, .slice none 0 0] 42)
  have hX := Blk.new w 42 #[.int .i64 0, .slice none 0 0]
  have HZZ : Hid ((w.alloc (.cells #[.int .i64 0, .slice none 0 0] 42)).heap.size = w.heap.size + 1) := World.size_alloc _ _
  unfold varV at hV
  unfold varL at hL
  unfold varE at hE
  by_cases hv : varBad vars i
  case pos =>
    rw [if_pos hv] at hV hL hE
    subst hV hL hE
    have fin : ∀ (a : Act), a.tmps.getD 4 undef = .pointer (some ⟨w.heap.size, 0, none⟩) → True := fun _ _ => trivial
    unfold varBad at hv
    by_cases h1 : vars < 0
    · clear hv fin
      go_enter Tryz.func41, Tryz.ntmps41
      go_wp2
      refine bodyPost_ret (results_rowP rfl _ _ (w.heap.size) _ #[.int .i64 0, .slice none 0 0] (0, 0) _ rfl hX Tryz.underlying42 rfl (by kernel_rfl)) rfl ?_
      exact PolyOut.bad _ _ _ hb0
    · by_cases h2 : 64 < vars
      · clear hv fin
        go_enter Tryz.func41, Tryz.ntmps41
        go_wp2
        refine bodyPost_ret (results_rowP rfl _ _ (w.heap.size) _ #[.int .i64 0, .slice none 0 0] (0, 0) _ rfl hX Tryz.underlying42 rfl (by kernel_rfl)) rfl ?_
        exact PolyOut.bad _ _ _ hb0
      · by_cases h3 : i < 0
        · clear hv fin
          go_enter Tryz.func41, Tryz.ntmps41
          go_wp2
          refine bodyPost_ret (results_rowP rfl _ _ (w.heap.size) _ #[.int .i64 0, .slice none 0 0] (0, 0) _ rfl hX Tryz.underlying42 rfl (by kernel_rfl)) rfl ?_
          exact PolyOut.bad _ _ _ hb0
        · have h4 : vars ≤ i := by omega
          clear hv fin
          go_enter Tryz.func41, Tryz.ntmps41
          go_wp2
          refine bodyPost_ret (results_rowP rfl _ _ (w.heap.size) _ #[.int .i64 0, .slice none 0 0] (0, 0) _ rfl hX Tryz.underlying42 rfl (by kernel_rfl)) rfl ?_
          exact PolyOut.bad _ _ _ hb0
  case neg =>
    rw [if_neg hv] at hV hL hE
    have hv' : 0 ≤ vars ∧ vars ≤ 64 ∧ 0 ≤ i ∧ i < vars := by unfold varBad at hv; omega
    obtain ⟨vn, rfl⟩ : ∃ vn : Nat, vars = vn := ⟨vars.toNat, by omega⟩
    obtain ⟨k, rfl⟩ : ∃ k : Nat, i = k := ⟨i.toNat, by omega⟩
    have h1 : ¬ (vn : Int) < 0 := by omega
    have h2 : ¬ 64 < (vn : Int) := by omega
    have h3 : ¬ (k : Int) < 0 := by omega
    have h4 : ¬ (vn : Int) ≤ (k : Int) := by omega
    have h5 : (0 : Int) ≤ (k : Int) := by omega
    have h6 : (k : Int) < (vn : Int) := by omega
    have h7 : k < vn := by omega
    have h8 : vn ≤ 64 := by omega
    obtain ⟨t, ht1, ht2⟩ : ∃ t : Tm, t.1 = 1 ∧ t.2 = (List.replicate vn (0 : Int)).set k 1 := ⟨(1, (List.replicate vn (0 : Int)).set k 1), rfl, rfl⟩
    have hcT : varT (vn : Int) (k : Int) = [t] := by unfold varT; rw [Int.toNat_natCast, Int.toNat_natCast, ← ht2, ← ht1]
    rw [hcT] at hV hL hE
    have HT := hide ht2
    have hlen : t.2.length = vn := by rw [ht2]; simp
    have HLN := hide hlen
    have HMK := hide (fun (W : World) (g : Nat) (k : TOut (fun _ => True) W (some ⟨g, 0, none⟩) 1 1 [t]) => PMake_calls (fun _ => True) (vn : Int) (some ⟨g, 0, none⟩) 1 1 [t] W k (by decide) (fun s hs => by rw [List.mem_singleton.1 hs, HLN.out]; omega) V L E hV hL hE)
    have h1t : (t.1.toNat : Int) = 1 := by rw [ht1]; rfl
    have H1T := hide h1t
    clear hcT ht1 ht2 hlen hV hL hE h1t hv hv'
    go_enter Tryz.func41, Tryz.ntmps41
    go_wp2_with (first
      | (at_make; go_must (refine wpList_mk tyI03 (B := (w.alloc (.cells #[.int .i64 0, .slice none 0 0] 42)).heap.size) (n := vn) rfl rfl rfl rfl rfl rfl (Nat.le_refl _) (by omega) ?_; intro w3 hown3 hg3; rw [HZZ.out] at hown3; have hb3 := below_of_grown hg3; have hB3 := hb0.trans (hb3.mono hb0.size); have hX3 := hX.belowN hb3; have hz3 := hb3.size; have hfz := hown3.frozen k; obtain ⟨z, zu, hz1, hz2, hz4⟩ := hown3.cell1 (i := k) (by simpa using h7) rfl; have hown4 := hown3.set1 k (1 : Int) (.int .i64 1) rfl; have hBN := (fun (cs : Array Value) (T : TypeId) => (World.size_setCell w3 ⟨w.heap.size + 1, k, none⟩ (.int .i64 1)) ▸ Blk.new (w3.setCell ⟨w.heap.size + 1, k, none⟩ (.int .i64 1)) T cs); have hX4 := hX3.far (p := ⟨w.heap.size + 1, k, none⟩) (by simp) (.int .i64 1); have hB4 := hB3.setCell (p := ⟨w.heap.size + 1, k, none⟩) (by simp) (.int .i64 1)))
      | (go_at_call 84; go_must ((refine (HMK.out _ _ (TOut.one_ (by rw [H1T.out]; exact hBN _ _) HLN.out.symm (by omega) (by rw [HT.out]; exact (hown4.alloc _).at_))).mono ?_); rintro v w5 ⟨a5, n5, c5, rfl, hT5, hb5⟩; have hbx := below_box (w3.setCell ⟨w.heap.size + 1, k, none⟩ (.int .i64 1)) (.cells #[.int .u64 1, .slice (some ⟨w.heap.size + 1, 0, none⟩) vn vn] 92); have hB9 := hB4.trans (hbx.mono hB4.size); have hB5 := hB9.trans (hb5.mono hB9.size); have hX5 := (hX4.belowN hbx).belowN hb5; obtain ⟨x0, x1, x2, x3⟩ := hX5.c2)))
    have hF6 := (hX5.set_ 0 (.int .i64 V)).set_ 1 (.slice a5 n5 c5)
    refine bodyPost_ret (results_rowP rfl _ _ (w.heap.size) _ #[.int .i64 V, .slice a5 n5 c5] (0, 0) _ rfl hF6 Tryz.underlying42 rfl (by kernel_rfl)) rfl ?_
    exact PolyOut.stored hB5 hT5 (Nat.le_refl _) (hX4.belowN hbx).lt hB9.size
set_option maxRecDepth 100000 in
set_option maxHeartbeats 3200000 in
theorem PConst_low (vars : Int) (h1 : vars < 0) (h2 : max vars 0 = 0) (c : UInt64) (w : World) :
    Calls Tryz.prog 111 #[.int .i64 vars, .int .u64 (c.toNat : Int)] w (PolyOut 0 [] 2 w) := by
  have hb0 := below_box w (.cells #[.int .i64 0, .slice none 0 0] 42)
  have hX := Blk.new w 42 #[.int .i64 0, .slice none 0 0]
  have HZZ : Hid ((w.alloc (.cells #[.int .i64 0, .slice none 0 0] 42)).heap.size = w.heap.size + 1) := World.size_alloc _ _
  obtain ⟨t, ht1, ht2⟩ : ∃ t : Tm, c = t.1 ∧ t.2 = List.replicate 0 0 := ⟨(c, List.replicate 0 0), rfl, rfl⟩
  subst ht1
  have HT := hide ht2
  have hlen : t.2.length = 0 := by rw [ht2]; rfl
  have HLN := hide hlen
  obtain ⟨q1, q2, q3⟩ := mk_bad (vars := vars) (by omega) [t]
  have HMK := hide (fun (W : World) (g : Nat) (k : TOut (fun _ => True) W (some ⟨g, 0, none⟩) 1 1 [t]) => PMake_calls (fun _ => True) vars (some ⟨g, 0, none⟩) 1 1 [t] W k (by decide) (fun s hs => by rw [List.mem_singleton.1 hs, HLN.out]; omega) 0 [] 2 q2 q3 q1)
  clear ht2 hlen q1 q2 q3
  go_enter Tryz.func111, Tryz.ntmps111
  go_wp2_with (first
    | (at_make; go_must (refine wpList_mk tyI03 (B := (w.alloc (.cells #[.int .i64 0, .slice none 0 0] 42)).heap.size) (n := 0) rfl rfl rfl rfl rfl rfl (Nat.le_refl _) (by omega) ?_; intro w3 hown3 hg3; rw [HZZ.out] at hown3; have hb3 := below_of_grown hg3; have hB3 := hb0.trans (hb3.mono hb0.size); have hX3 := hX.belowN hb3; have hz3 := hb3.size; have hbx := below_box w3 (.cells #[.int .u64 (t.1.toNat : Int), .slice (some ⟨w.heap.size + 1, 0, none⟩) 0 0] 92); have hB4 := hB3.trans (hbx.mono hB3.size); have hX4 := hX3.belowN hbx))
    | (go_at_call 84; go_must ((refine (HMK.out _ _ (TOut.one_ (Blk.new w3 _ #[.int .u64 (t.1.toNat : Int), .slice _ 0 0]) HLN.out.symm (by omega) (by rw [HT.out]; exact (hown3.alloc _).at_))).mono ?_); rintro v w5 ⟨a5, n5, c5, rfl, hT5, hb5⟩; have hB5 := hB4.trans (hb5.mono hB4.size); have hX5 := hX4.belowN hb5; obtain ⟨x0, x1, x2, x3⟩ := hX5.c2)))
  have hF6 := (hX5.set_ 0 (.int .i64 0)).set_ 1 (.slice a5 n5 c5)
  refine bodyPost_ret (results_rowP rfl _ _ (w.heap.size) _ #[.int .i64 0, .slice a5 n5 c5] (0, 0) _ rfl hF6 Tryz.underlying42 rfl (by kernel_rfl)) rfl ?_
  exact PolyOut.stored hB5 hT5 (Nat.le_refl _) (by rw [World.size_alloc] at hz3; rw [World.size_alloc]; omega) (by rw [World.size_alloc] at hz3; rw [World.size_alloc]; omega)
set_option maxRecDepth 100000 in
set_option maxHeartbeats 3200000 in
theorem PConst_high (vars : Int) (h1 : 64 < vars) (h2 : max vars 0 = vars) (h3 : min vars 64 = 64) (c : UInt64) (w : World) :
    Calls Tryz.prog 111 #[.int .i64 vars, .int .u64 (c.toNat : Int)] w (PolyOut 0 [] 2 w) := by
  have hb0 := below_box w (.cells #[.int .i64 0, .slice none 0 0] 42)
  have hX := Blk.new w 42 #[.int .i64 0, .slice none 0 0]
  have HZZ : Hid ((w.alloc (.cells #[.int .i64 0, .slice none 0 0] 42)).heap.size = w.heap.size + 1) := World.size_alloc _ _
  obtain ⟨t, ht1, ht2⟩ : ∃ t : Tm, c = t.1 ∧ t.2 = List.replicate 64 0 := ⟨(c, List.replicate 64 0), rfl, rfl⟩
  subst ht1
  have HT := hide ht2
  have hlen : t.2.length = 64 := by rw [ht2]; rfl
  have HLN := hide hlen
  obtain ⟨q1, q2, q3⟩ := mk_bad (vars := vars) (by omega) [t]
  have HMK := hide (fun (W : World) (g : Nat) (k : TOut (fun _ => True) W (some ⟨g, 0, none⟩) 1 1 [t]) => PMake_calls (fun _ => True) vars (some ⟨g, 0, none⟩) 1 1 [t] W k (by decide) (fun s hs => by rw [List.mem_singleton.1 hs, HLN.out]; omega) 0 [] 2 q2 q3 q1)
  clear ht2 hlen q1 q2 q3
  go_enter Tryz.func111, Tryz.ntmps111
  go_wp2_with (first
    | (at_make; go_must (refine wpList_mk tyI03 (B := (w.alloc (.cells #[.int .i64 0, .slice none 0 0] 42)).heap.size) (n := 64) rfl rfl rfl rfl rfl rfl (Nat.le_refl _) (by omega) ?_; intro w3 hown3 hg3; rw [HZZ.out] at hown3; have hb3 := below_of_grown hg3; have hB3 := hb0.trans (hb3.mono hb0.size); have hX3 := hX.belowN hb3; have hz3 := hb3.size; have hbx := below_box w3 (.cells #[.int .u64 (t.1.toNat : Int), .slice (some ⟨w.heap.size + 1, 0, none⟩) 64 64] 92); have hB4 := hB3.trans (hbx.mono hB3.size); have hX4 := hX3.belowN hbx))
    | (go_at_call 84; go_must ((refine (HMK.out _ _ (TOut.one_ (Blk.new w3 _ #[.int .u64 (t.1.toNat : Int), .slice _ 64 64]) HLN.out.symm (by omega) (by rw [HT.out]; exact (hown3.alloc _).at_))).mono ?_); rintro v w5 ⟨a5, n5, c5, rfl, hT5, hb5⟩; have hB5 := hB4.trans (hb5.mono hB4.size); have hX5 := hX4.belowN hb5; obtain ⟨x0, x1, x2, x3⟩ := hX5.c2)))
  have hF6 := (hX5.set_ 0 (.int .i64 0)).set_ 1 (.slice a5 n5 c5)
  refine bodyPost_ret (results_rowP rfl _ _ (w.heap.size) _ #[.int .i64 0, .slice a5 n5 c5] (0, 0) _ rfl hF6 Tryz.underlying42 rfl (by kernel_rfl)) rfl ?_
  exact PolyOut.stored hB5 hT5 (Nat.le_refl _) (by rw [World.size_alloc] at hz3; rw [World.size_alloc]; omega) (by rw [World.size_alloc] at hz3; rw [World.size_alloc]; omega)
theorem PConst_calls (vars : Int) (c : UInt64) (w : World) (V : Int) (L : List Tm) (E : Int) (hV : mkV vars (constT vars c) = V) (hL : mkL vars (constT vars c) = L) (hE : mkE vars (constT vars c) = E) :
    Calls Tryz.prog 111 #[.int .i64 vars, .int .u64 (c.toNat : Int)] w (PolyOut V L E w) := by
  by_cases hv : vars < 0 ∨ 64 < vars
  case pos =>
    obtain ⟨q1, q2, q3⟩ := mk_bad hv (constT vars c)
    rw [q1] at hE
    rw [q2] at hV
    rw [q3] at hL
    subst hE hV hL
    by_cases h1 : vars < 0
    · exact PConst_low vars h1 (by omega) c w
    · exact PConst_high vars (by omega) (by omega) (by omega) c w
  case neg =>
    obtain ⟨vn, rfl⟩ : ∃ vn : Nat, vars = vn := ⟨vars.toNat, by omega⟩
    exact PConst_good vn (by omega) c w V L E hV hL hE
end Go.Proofs.YtcamcnahkdiefaaGreat

/- slices.Concat of terms; slices.Clone of powers. -/
namespace Go.Proofs.YtcamcnahkdiefaaGreat
set_option linter.unusedVariables false
set_option linter.unusedSimpArgs false
open Go.RowKit Go.Lib
set_option maxHeartbeats 1600000 in
theorem GrowT_calls (n : Nat) (hn : n ≤ 1000000000) (w : World) :
    Calls Tryz.prog 202 #[.slice none 0 0, .int .i64 n] w fun e w' => ∃ a' c', e = .returned (.slice a' 0 c') ∧ Own w' w.heap.size 92 a' c' ([] : List TmH) ∧ Below w.heap.size w w' := by
  rcases Nat.eq_zero_or_pos n with rfl | h0
  · go_enter Tryz.func202, Tryz.ntmps202
    go_wp2
    go_ret
    exact ⟨none, 0, rfl, Own.none _ _ _, Below.refl _ _⟩
  · have h1 : ¬ ((n : Int) < 0) := by omega
    have h2 : (n : Int) > 0 := by omega
    obtain ⟨i, hi, hz, hsz, hby⟩ : ∃ i, Tryz.prog.info? 92 = some i ∧ i.zero = some (.agg #[.int .u64 0, .slice none 0 0]) ∧ i.size = 2 ∧ i.bytes = 32 := by
      obtain ⟨i, q1, q2, q3, q4⟩ := info_parts (P := Tryz.prog) (show (Tryz.prog.info? 92).map (fun i => (i.zero, i.size, i.bytes)) = some (some (.agg #[.int .u64 0, .slice none 0 0]), 2, 32) by kernel_rfl)
      exact ⟨i, q1, q2, q3, q4⟩
    have hcap := grownCap_le_maxLen w n 0 92 (by simp only [maxLen]; omega)
    have hge := grownCap_ge w n 0 92
    have hrun := fun ty => run_append_nil_zeros w 40 3 ty 92 i (.agg #[.int .u64 0, .slice none 0 0]) .i64 .i64 Tryz.underlying40 Tryz.underlying3 hi hz n h0 (by omega) (by omega) (by rw [hby]; omega)
    obtain ⟨C, hC⟩ : ∃ C, grownCap w n 0 92 = C := ⟨_, rfl⟩
    rw [hC] at hcap hge hrun
    have HR := hide hrun
    clear hrun
    have hown : Own (w.drew.alloc (.cells (Builtin.zeroCells (Value.agg #[.int .u64 0, .slice none 0 0]).cells n ++ Builtin.zeroCells (Value.agg #[.int .u64 0, .slice none 0 0]).cells (C - n)) 92)) w.heap.size 92 (some ⟨w.heap.size, 0, none⟩) C ([] : List TmH) :=
      World.ownsRow_made w.drew _ C (Nat.le_refl _) hcap (by rw [Array.size_append, size_zeroCells, size_zeroCells]; show n * 2 + (C - n) * 2 = C * 2; omega)
    have hbel : Below w.heap.size w (w.drew.alloc (.cells (Builtin.zeroCells (Value.agg #[.int .u64 0, .slice none 0 0]).cells n ++ Builtin.zeroCells (Value.agg #[.int .u64 0, .slice none 0 0]).cells (C - n)) 92)) := (Below.drew (Below.refl _ _)).alloc (Nat.le_refl _) _
    have HO := hide hown
    have HB := hide hbel
    clear hown hbel hC
    go_enter Tryz.func202, Tryz.ntmps202
    go_wp2_with (at_builtin; refine Lib.wpList_append_run _ rfl _ _ _ _ rfl _ _ rfl rfl _ _ (HR.out _) ?_)
    go_ret
    exact ⟨_, C, rfl, HO.out, HB.out⟩
def AtHH (w : World) (a : Option Addr) (ls : List (List TmH)) : Prop := ∃ hs : List Hd, At w a hs ∧ hs.length = ls.length ∧ ∀ (i : Nat) (h : Hd) (l : List TmH), hs[i]? = some h → ls[i]? = some l → h.n = l.length ∧ h.n ≤ h.c ∧ h.c ≤ 9223372036854775807 ∧ At w h.a l
theorem AtHH.get {w wr : World} {a : Option Addr} {ls : List (List TmH)} (h : AtHH w a ls) (hb : Below w.heap.size w wr) {k : Nat} (hk : k < ls.length) :
    ∃ (b off : Nat) (ha : Option Addr) (hn hc : Nat) (l : List TmH), a = some ⟨b, off, none⟩ ∧ Hid (ls[k]? = some l) ∧ wr.cell? ⟨b, off + k, none⟩ = some (.slice ha hn hc) ∧ Hid (hn = l.length) ∧ hn ≤ hc ∧ hc ≤ 9223372036854775807 ∧ At wr ha l := by
  obtain ⟨hs, h1, h2, h3⟩ := h
  obtain ⟨b, off, y, e, hy, hc⟩ := (h1.belowN hb).get (k := k) (by omega)
  have ht : ls[k]? = some ls[k] := List.getElem?_eq_getElem hk
  obtain ⟨q1, q2, q3, q4⟩ := h3 k y _ hy.out ht
  exact ⟨b, off, y.a, y.n, y.c, ls[k], e, hide ht, by simpa [Flat.n] using hc 0 _ rfl, hide q1, q2, q3, q4.belowN hb⟩
theorem flatT_take {ls : List (List TmH)} {k : Nat} {l : List TmH} (h : ls[k]? = some l) : (ls.take (k + 1)).flatten = (ls.take k).flatten ++ l := by
  rw [List.take_add_one, h]; simp
theorem flatT_le (ls : List (List TmH)) (k : Nat) : (ls.take k).flatten.length ≤ ls.flatten.length := by
  conv => rhs; rw [← List.take_append_drop k ls]
  rw [List.flatten_append, List.length_append]; omega
set_option maxHeartbeats 1600000 in
theorem ConcatT_calls (a : Option Addr) (c n : Nat) (ls : List (List TmH)) (w : World) (hn : n = ls.length) (h : AtHH w a ls) (hl : n ≤ 1000000) (hf : ls.flatten.length ≤ 1000000000) (N : Nat) (hN : N = ls.flatten.length) :
    Calls Tryz.prog 187 #[.slice a n c] w fun e w' => ∃ a' c', e = .returned (.slice a' N c') ∧ Own w' w.heap.size 92 a' c' ls.flatten ∧ Below w.heap.size w w' := by
  have HN := hide hn
  have HF := hide hf
  have HNN := hide hN
  have HL := hide (flatT_le ls)
  clear hn hf hN
  go_enter Tryz.func187, Tryz.ntmps187
  go_wp2
  go_loopw [3, 5, 11] (fun sz _ iv wr => ∃ k m : Nat, iv = .int .i64 k ∧ k ≤ n ∧ sz = .int .i64 m ∧ Hid (m = (ls.take k).flatten.length) ∧ wr = w) (fun _ _ iv _ => n - (intOf iv).toNat)
  case atStart => exact ⟨0, 0, rfl, by omega, rfl, by show _ = _; simp, rfl⟩
  case round =>
    obtain ⟨k, m, rfl, hk, rfl, hm, rfl⟩ := hrel
    by_cases hkn : k < n
    · obtain ⟨b, off, ha, hl', hc, l, rfl, hx, x0, hln, hcap, hmx, hat⟩ := h.get (Below.refl _ _) (k := k) (by rw [← HN.out]; exact hkn)
      have HM := hide (show m + hl' = (ls.take (k + 1)).flatten.length by rw [flatT_take hx.out, List.length_append, hm.out, hln.out])
      have hle : m + hl' ≤ 1000000000 := by rw [HM.out]; exact Nat.le_trans (HL.out _) HF.out
      go_wp2
      go_roundw
      case rel => exact ⟨k + 1, m + hl', by go_num, by omega, by go_num, HM.out, trivial⟩
      case measure => simp [intOf]; omega
    · obtain rfl : n = k := by omega
      have hmN : N = m := by rw [hm.out, HN.out, List.take_length, HNN.out]
      have hNl : N ≤ 1000000000 := by rw [HNN.out]; exact HF.out
      subst hmN
      clear hm
      go_wp2_with (go_at_call 202; go_must ((with_reducible refine (GrowT_calls N hNl _).mono ?_); rintro e w1 ⟨a1, c1, rfl, hown1, hb1⟩))
      obtain ⟨w, rfl⟩ : ∃ w0 : World, w0 = wr := ⟨_, rfl⟩
      go_loopw [6, 8, 27] (fun ov _ iv wr => ∃ (k m : Nat) (ao : Option Addr) (co : Nat), iv = .int .i64 k ∧ k ≤ n ∧ ov = .slice ao m co ∧ Hid (m = (ls.take k).flatten.length) ∧ Own wr w.heap.size 92 ao co (ls.take k).flatten ∧ Below w.heap.size w wr) (fun _ _ iv _ => n - (intOf iv).toNat)
      case atStart => exact ⟨0, 0, _, _, rfl, by omega, rfl, by show _ = _; simp, by simpa using hown1, hb1⟩
      case round =>
        obtain ⟨k, m, ao, co, rfl, hk, rfl, hm, hown, hbr⟩ := hrel
        have hzr := hbr.size
        by_cases hkn : k < n
        · obtain ⟨b, off, ha, hl', hc, l, rfl, hx, x0, hln, hcap, hmx, hatr⟩ := h.get hbr (k := k) (by rw [← HN.out]; exact hkn)
          have HT := hide (flatT_take hx.out)
          have HM := hide (show m + hl' = (ls.take (k + 1)).flatten.length by rw [flatT_take hx.out, List.length_append, hm.out, hln.out])
          have hle : m + hl' ≤ 1000000000 := by rw [HM.out]; exact Nat.le_trans (HL.out _) HF.out
          go_wp2_with (at_builtin; refine wpList_pushAll tyT hown hatr rfl rfl rfl rfl hm.out hln.out hzr (by omega) (by omega) ?_; intro a3 c3 w3 hown3 hg3 _)
          go_roundw
          case rel => exact ⟨k + 1, m + hl', a3, c3, by go_num, by omega, rfl, HM.out, by rw [HT.out]; exact hown3, below_push hbr hown hg3 hzr⟩
          case measure => simp [intOf]; omega
        · obtain rfl : n = k := by omega
          have hmN : m = N := by rw [hm.out, HN.out, List.take_length, HNN.out]
          rw [HN.out, List.take_length] at hown
          subst hmN
          clear hm
          go_wp2
          go_ret
          exact ⟨ao, co, rfl, hown, hbr⟩
end Go.Proofs.YtcamcnahkdiefaaGreat

/- Sums of both sides; what no sum, product, negative or derivative is. -/
namespace Go.Proofs.YtcamcnahkdiefaaGreat
set_option linter.unusedVariables false
set_option linter.unusedSimpArgs false
open Go.RowKit
theorem OkP.right {vars : Int} {n : Nat} {ts : List Tm} (h : OkP vars n ts) : rightL vars ts = true := List.all_eq_true.2 h.rt
theorem OkP.range {vars : Int} {n : Nat} {ts : List Tm} (h : OkP vars n ts) : ¬ (vars < 0 ∨ 64 < vars) := by have := h.v; have := h.n64; omega
theorem rightL_app {vars : Int} {a b : List Tm} (ha : rightL vars a = true) (hb : rightL vars b = true) : rightL vars (a ++ b) = true := by
  unfold rightL at *; rw [List.all_append, ha, hb]; rfl
end Go.Proofs.YtcamcnahkdiefaaGreat
