/- Powers as a text, and back. -/
import Derived.Test.YtcamcnahkdiefaaPg
import Derived.Test.YtcamcnahkdiefaaPp
import Derived.Test.YtcamcnahkdiefaaSs
namespace Go.Proofs.Ytcamcnahkdiefaa
set_option linter.unusedVariables false
set_option linter.unusedSimpArgs false
open Go.RowKit
theorem tyB8 : Ty Try.prog 87 5 UInt8 := Ty.of (z := .int .u8 0) (size := 1) (bytes := 1) Try.underlying87 (by kernel_rfl) rfl (by decide) rfl
theorem keyB_take {e : List Int} {k : Nat} {x : Int} (h : e[k]? = some x) : keyB (e.take (k + 1)) = keyB (e.take k) ++ two x := by
  rw [List.take_add_one, h]
  unfold keyB
  rw [List.flatMap_append]; simp
theorem convert_key {w : World} {B : Nat} {E : TypeId} {a : Option Addr} {c : Nat} {l : List UInt8} {n : Nat} (h : Own w B E a c l) (hn : n = l.length) :
    (convert 87 9 (.slice a n c)).run Try.prog w = .ok (.string ⟨l.toArray⟩) w := by
  subst hn
  rcases h.form with ⟨rfl, rfl, rfl⟩ | ⟨g, rfl, _, _⟩
  · rw [run_convert_bytes_string w _ _ 5 none _ 0 Try.underlying87 Try.underlying5 Try.underlying9]
    simp [Conv.bytesToString]
    rfl
  · refine run_convert_bytes_back w _ _ 5 _ _ l Try.underlying87 Try.underlying5 Try.underlying9 fun j hj => ?_
    have := h.at_.one j l[j] (List.getElem?_eq_getElem hj) 0 _ rfl
    rw [addr_add]
    simpa [Flat.n] using this
set_option maxHeartbeats 1600000 in
theorem Key_calls (a : Option Addr) (n c : Nat) (e : List Int) (hn : n = e.length) (w : World) (h : At w a e) (hi : InE e) (hl : n ≤ 1000000) :
    Calls Try.prog 52 #[.slice a n c] w fun v w' => v = .returned (.string ⟨(keyB e).toArray⟩) ∧ Below w.heap.size w w' := by
  have HN := hide hn
  have HI := hide hi
  clear hn hi
  go_enter Try.func52, Try.ntmps52
  go_wp2
  go_loopw [3, 8] (fun bv iv wr => ∃ (k : Nat) (ao : Option Addr) (m co : Nat), iv = .int .i64 k ∧ k ≤ n ∧ bv = .slice ao m co ∧ Hid (m = 2 * k) ∧ Own wr w.heap.size 5 ao co (keyB (e.take k)) ∧ Below w.heap.size w wr) (fun _ iv _ => n - (intOf iv).toNat)
  case atStart => exact ⟨0, none, 0, 0, rfl, by omega, rfl, rfl, Own.none _ _ _, Below.refl _ _⟩
  case round =>
    obtain ⟨k, ao, m, co, rfl, hk, rfl, hm, hown, hb⟩ := hrel
    have hzr := hb.size
    by_cases hlt : k < n
    · obtain ⟨b1, off1, x, rfl, hx, x0⟩ := h.getI hb (k := k) (by rw [← HN.out]; exact hlt)
      have hk0 : (0 : Int) ≤ (k : Int) := by omega
      have hk1 : (k : Int) < (n : Int) := by omega
      have hxr := HI.out x (List.mem_of_getElem? hx.out)
      have HS := hide (keyB_take hx.out)
      have HL := hide (show m = (keyB (e.take k)).length by rw [keyB_len, List.length_take, ← HN.out, hm.out]; omega)
      obtain ⟨p, rfl⟩ : ∃ p : Nat, x = p := ⟨x.toNat, by omega⟩
      obtain ⟨u, hu⟩ : ∃ u : UInt8, u = UInt8.ofNat (p / 256) := ⟨_, rfl⟩
      obtain ⟨v, hv⟩ : ∃ v : UInt8, v = UInt8.ofNat (p % 256) := ⟨_, rfl⟩
      have HT : Hid (two (p : Int) = [u, v]) := by show _ = _; unfold two; rw [Int.toNat_natCast, hu, hv]
      have hu2 : IntKind.u8.wrap ((p : Int) / 256) = (u.toNat : Int) := by
        rw [hu, UInt8.toNat_ofNat']
        simp [IntKind.wrap, IntKind.bits, IntKind.signed]
      have hv2 : IntKind.u8.wrap (p : Int) = (v.toNat : Int) := by
        rw [hv, UInt8.toNat_ofNat']
        simp [IntKind.wrap, IntKind.bits, IntKind.signed]
      clear hx hu hv
      have hA : At (wr.alloc (.cells #[.int .u8 (u.toNat : Int), .int .u8 (v.toNat : Int)] 5)) (some ⟨wr.heap.size, 0, none⟩) [u, v] := At.ofBlk (Blk.new wr _ _) _ rfl
      have hzA : w.heap.size ≤ (wr.alloc (.cells #[.int .u8 (u.toNat : Int), .int .u8 (v.toNat : Int)] 5)).heap.size := by rw [World.size_alloc]; omega
      have hm9 : m ≤ 1000000000 := by rw [hm.out]; omega
      go_wp2_with (at_builtin; go_must (refine wpList_pushAll tyB8 (hown.alloc _) hA rfl rfl rfl rfl HL.out rfl hzA hm9 (by decide) ?_; intro a3 c3 w3 hown3 hg3 _))
      go_roundw
      case rel => exact ⟨k + 1, a3, m + 2, c3, by go_num, by omega, rfl, by show _ = _; rw [hm.out]; omega, by rw [HS.out, HT.out]; exact hown3, below_push (hb.alloc hzr _) (hown.alloc _) hg3 hzA⟩
      case measure => simp [intOf]; omega
    · obtain rfl : k = n := by omega
      have hE : e.take k = e := by rw [HN.out]; exact List.take_length
      rw [hE] at hown
      have hcv := convert_key hown (n := m) (by rw [keyB_len, ← HN.out, hm.out])
      clear hE
      go_wp2
      go_ret
      exact ⟨rfl, hb⟩
theorem tyI03 : TyZ Try.prog 55 3 (0 : Int) (.int .i64 0) := TyZ.of (bytes := 8) Try.underlying55 (by kernel_rfl) (by decide) rfl rfl
theorem key_at {e : List Int} (hi : InE e) {k p : Nat} (h : e[k]? = some (p : Int)) : (keyB e)[2 * k]? = some (UInt8.ofNat (p / 256)) ∧ (keyB e)[2 * k + 1]? = some (UInt8.ofNat (p % 256)) := by
  induction e generalizing k with
  | nil => simp at h
  | cons x e ih =>
    rw [keyB_cons]
    cases k with
    | zero =>
      simp at h
      subst h
      rw [Int.toNat_natCast]
      exact ⟨rfl, rfl⟩
    | succ k =>
      rw [show 2 * (k + 1) = 2 * k + 1 + 1 by omega]
      simp only [List.getElem?_cons_succ] at h ⊢
      exact ih hi.tail h
theorem two_join {u v p : Nat} (hu : u = p / 256) (hv : v = p % 256) (hp : p ≤ 65535) : wrap64 (u : Int) = (u : Int) ∧ wrap64 (v : Int) = (v : Int) ∧ wrap64 ((u : Int) * 256) = (u : Int) * 256 ∧ bits .or .i64 ((u : Int) * 256) (v : Int) = (p : Int) := by
  have h1 : u ≤ 255 := by omega
  have h2 : v ≤ 255 := by omega
  have h3 : (u : Int) * 256 + (v : Int) = (p : Int) := by omega
  clear hu hv
  refine ⟨IntWalk.wrap64_in _ ⟨by omega, by omega⟩, IntWalk.wrap64_in _ ⟨by omega, by omega⟩, IntWalk.wrap64_in _ ⟨by omega, by omega⟩, ?_⟩
  rw [bits_join .i64 62 (by decide) (fun n h1 h2 => by rw [IntKind.wrap_i64]; omega) 8 _ _ (by omega) (by omega) (by omega) (by omega) (by omega) (by omega)]
  exact h3
set_option maxHeartbeats 1600000 in
theorem Powers_calls (e : List Int) (s : ByteArray) (hs : s = ⟨(keyB e).toArray⟩) (w : World) (hi : InE e) (hl : e.length ≤ 1000000) :
    Calls Try.prog 56 #[.string s] w fun v w' => ∃ a, v = .returned (.slice (some a) e.length e.length) ∧ Own w' w.heap.size 3 (some a) e.length e ∧ Below w.heap.size w w' := by
  obtain ⟨n, hn⟩ : ∃ n, n = e.length := ⟨_, rfl⟩
  rw [← hn] at hl ⊢
  obtain ⟨m, hm⟩ : ∃ m : Nat, s.size = m := ⟨_, rfl⟩
  have hm2 : m = 2 * n := by rw [← hm, hs, hn]; simp [ByteArray.size, keyB_len]
  have hq : (m : Int) / 2 = (n : Int) := by omega
  have hq2 : (m : Int).tdiv 2 = (n : Int) := by rw [Int.tdiv_eq_ediv_of_nonneg (by omega)]; exact hq
  have hq3 : wrap64 (n : Int) = (n : Int) := IntWalk.wrap64_in _ (by omega)
  have HN := hide hn
  have HM := hide hm2
  have HI := hide hi
  have HK : Hid (∀ (j : Nat) (u : UInt8) (W : World), (keyB e)[j]? = some u → (Instr.index 9 (.string s) (.int .i64 (j : Int))).run Try.prog W = .ok (.int .u8 (u.toNat : Int)) W) := hide (by
    intro j u W hj
    have hj' : j < (keyB e).length := (List.getElem?_eq_some_iff.1 hj).1
    have hjs : (0 : Int) ≤ (j : Int) ∧ (j : Int) < s.size := by rw [hs]; simp [ByteArray.size]; omega
    rw [run_index_string W _ s _ _ Try.underlying9, dif_pos hjs]
    have : s[((j : Int)).toNat]'(by omega) = u := by
      subst hs
      have h2 := (List.getElem?_eq_some_iff.1 hj).2
      rw [← h2]
      simp only [Int.toNat_natCast]
      rfl
    rw [this])
  clear hn hm2 hi hs
  go_enter Try.func56, Try.ntmps56
  go_wp2_with (at_make; go_must (refine wpList_mk tyI03 (B := w.heap.size) (n := n) rfl rfl rfl rfl rfl rfl (Nat.le_refl _) (by omega) ?_; intro w3 hown3 hg3; have hb3 := below_of_grown hg3))
  clear hg3
  go_loopw [11] (fun iv wr => ∃ (k : Nat) (l : List Int), iv = .int .i64 k ∧ k ≤ n ∧ Hid (l.take k = e.take k) ∧ l.length = n ∧ Own wr w.heap.size 3 (some ⟨w.heap.size, 0, none⟩) n l ∧ Below w.heap.size w wr) (fun iv _ => n - (intOf iv).toNat)
  case atStart => exact ⟨0, List.replicate n 0, rfl, by omega, rfl, by simp, hown3, hb3⟩
  case round =>
    obtain ⟨k, l, rfl, hk, htk, hll, hown, hb⟩ := hrel
    by_cases hlt : k < n
    · have hk0 : (0 : Int) ≤ (k : Int) := by omega
      have hk1 : (k : Int) < (n : Int) := by omega
      obtain ⟨x, hx⟩ : ∃ x, e[k]? = some x := ⟨_, List.getElem?_eq_getElem (by rw [← HN.out]; exact hlt)⟩
      have hxr := HI.out x (List.mem_of_getElem? hx)
      obtain ⟨p, rfl⟩ : ∃ p : Nat, x = p := ⟨x.toNat, by omega⟩
      obtain ⟨c1, c2⟩ := key_at HI.out hx
      obtain ⟨u, hu⟩ : ∃ u : UInt8, u = UInt8.ofNat (p / 256) := ⟨_, rfl⟩
      obtain ⟨v, hv⟩ : ∃ v : UInt8, v = UInt8.ofNat (p % 256) := ⟨_, rfl⟩
      rw [← hu] at c1
      rw [← hv] at c2
      have i1 := fun W => HK.out _ _ W c1
      have i2 := fun W => HK.out _ _ W c2
      rw [show ((2 * k : Nat) : Int) = 2 * (k : Int) by omega] at i1
      rw [show ((2 * k + 1 : Nat) : Int) = 2 * (k : Int) + 1 by omega] at i2
      have hun : (u.toNat : Int) = (p : Int) / 256 := by rw [hu, UInt8.toNat_ofNat']; omega
      have hvn : (v.toNat : Int) = (p : Int) % 256 := by rw [hv, UInt8.toNat_ofNat']; omega
      have HUN := hide hun
      have HVN := hide hvn
      have hfz := hown.frozen k
      obtain ⟨z, zu, hz1, hz2, hz3⟩ := hown.cell1 (i := k) (by omega) rfl
      have hzu : zu = .int .i64 z := by simpa [Flat.enc] using hz2.symm
      subst hzu
      obtain ⟨e1, e2, e3, e4⟩ := two_join (u := u.toNat) (v := v.toNat) (p := p) (by omega) (by omega) (by omega)
      have hown2 := (hown.drew).set1 k (p : Int) (.int .i64 (p : Int)) rfl
      have HT2 : Hid ((l.set k (p : Int)).take (k + 1) = e.take (k + 1)) := by
        show _ = _
        rw [List.take_add_one, List.take_add_one, hx, List.take_set_of_le (Nat.le_refl _), htk.out, List.getElem?_set_self (by omega)]
      clear hx c1 c2 hu hv hun hvn hz1 hz2
      go_wp2
      go_region
      go_wp2
      go_roundw
      case rel => exact ⟨k + 1, _, by go_num, by omega, HT2.out, by simpa using hll, hown2, (below_drawn _ _ 1 |> hb.trans).setCell (p := ⟨w.heap.size, k, none⟩) (Nat.le_refl _) _⟩
      case measure => simp [intOf]; omega
    · obtain rfl : k = n := by omega
      have hle : l = e := by
        have := htk.out
        rw [List.take_of_length_le (by omega), List.take_of_length_le (by rw [← HN.out]; exact Nat.le_refl _)] at this
        exact this
      subst hle
      go_wp2
      go_ret
      exact ⟨_, rfl, hown, hb⟩
end Go.Proofs.Ytcamcnahkdiefaa
