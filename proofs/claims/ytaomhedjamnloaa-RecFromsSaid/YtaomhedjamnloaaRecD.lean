/- Contracts of rec: alike, upto. -/
import Derived.Test.YtaomhedjamnloaaRecC
set_option linter.unusedVariables false
set_option linter.unusedSimpArgs false
namespace Go.Proofs.Ytaomhedjamnloaa
open Go Go.RowKit

theorem alikeN_skip : ∀ (k : Nat) (s t : List UInt8), s.take k = t.take k → k ≤ s.length → k ≤ t.length → alikeN s t = k + alikeN (s.drop k) (t.drop k)
  | 0, s, t, _, _, _ => by simp
  | k + 1, [], t, h, hs, ht => by simp at hs
  | k + 1, a :: s, [], h, hs, ht => by simp at ht
  | k + 1, a :: s, b :: t, h, hs, ht => by
    rw [List.take_succ_cons, List.take_succ_cons] at h
    injection h with h1 h2
    rw [alikeN, if_pos h1, alikeN_skip k s t h2 (by simpa using hs) (by simpa using ht), List.drop_succ_cons, List.drop_succ_cons]
    omega
theorem keyN_end {a b : ByteArray} {k : Nat} (h : a.data.toList.take k = b.data.toList.take k) (hk : k = min a.size b.size) : keyN a b = k := by
  have ha : a.data.toList.length = a.size := Array.length_toList
  have hb : b.data.toList.length = b.size := Array.length_toList
  unfold keyN
  rw [alikeN_skip k _ _ h (by omega) (by omega)]
  rcases (show k = a.size ∨ k = b.size by omega) with e | e
  · rw [List.drop_of_length_le (l := a.data.toList) (by omega)]
    simp [alikeN]
  · rw [List.drop_of_length_le (l := b.data.toList) (by omega)]
    cases a.data.toList.drop k <;> simp [alikeN]
theorem keyN_differ {a b : ByteArray} {k : Nat} (h : a.data.toList.take k = b.data.toList.take k) (ha : k < a.size) (hb : k < b.size) (hne : a[k] ≠ b[k]) : keyN a b = k := by
  have hla : a.data.toList.length = a.size := Array.length_toList
  have hlb : b.data.toList.length = b.size := Array.length_toList
  unfold keyN
  rw [alikeN_skip k _ _ h (by omega) (by omega), List.drop_eq_getElem_cons (by omega), List.drop_eq_getElem_cons (l := b.data.toList) (by omega), alikeN, if_neg]
  · rfl
  · simpa [ByteArray.getElem_eq_getElem_data] using hne
theorem take_same {a b : ByteArray} {k : Nat} (h : a.data.toList.take k = b.data.toList.take k) (ha : k < a.size) (hb : k < b.size) (he : a[k] = b[k]) : a.data.toList.take (k + 1) = b.data.toList.take (k + 1) := by
  have hla : a.data.toList.length = a.size := Array.length_toList
  have hlb : b.data.toList.length = b.size := Array.length_toList
  rw [List.take_succ_eq_append_getElem (by omega), List.take_succ_eq_append_getElem (l := b.data.toList) (by omega), h]
  congr 2
set_option maxRecDepth 8000 in
set_option maxHeartbeats 800000 in
theorem alike_calls (w : World) (a b : ByteArray) (ha : a.size ≤ 9223372036854775807) (hb : b.size ≤ 9223372036854775807) :
    Calls Try.prog 68 #[.string a, .string b] w fun e w' => e = .returned (.int .i64 (keyN a b : Nat)) ∧ Drawn w w' := by
  have hend := fun (k : Nat) => @keyN_end a b k
  have hdif := fun (k : Nat) => @keyN_differ a b k
  have Hend := Lib.hid hend
  have Hdif := Lib.hid hdif
  clear hend hdif
  generalize keyN a b = n at *
  go_enter Try.func68, Try.ntmps68
  go_wp2_with fail
  all_goals
    go_loopw [13] (fun i wr => ∃ k : Nat, k ≤ a.size ∧ k ≤ b.size ∧ i = .int .i64 k ∧ Hid (a.data.toList.take k = b.data.toList.take k) ∧ Drawn w wr) (fun i _ => min a.size b.size - (intOf i).toNat)
    case atStart => exact ⟨0, by omega, by omega, rfl, Lib.hid rfl, Drawn.refl _⟩
    case round =>
      obtain ⟨k, hka, hkb, rfl, Hr, hD⟩ := hrel
      have Hm := Lib.hid (@meas_up k (min a.size b.size))
      by_cases hlt : k < a.size ∧ k < b.size
      · obtain ⟨h1, h2⟩ := hlt
        have Ht := Lib.hid (take_same Hr.out h1 h2)
        have Hd := Lib.hid (Hdif.out k Hr.out h1 h2)
        by_cases he : ((a[k].toNat : Int) == (b[k].toNat : Int)) = true
        · have hne : ((a[k].toNat : Int) != (b[k].toNat : Int)) = false := by simpa using he
          have he2 : a[k] = b[k] := UInt8.toNat_inj.1 (by have h2 : (a[k].toNat : Int) = b[k].toNat := by simpa using he
                                                          exact_mod_cast h2)
          have Hs := Lib.hid (Ht.out he2)
          clear he2
          go_wp2
          go_quiet (fail)
          go_wp2
          refine ⟨⟨k + 1, h1, h2, by rw [Int.natCast_succ], Hs, hD.step _⟩, Hm.out (by omega)⟩
        · have hne : ((a[k].toNat : Int) != (b[k].toNat : Int)) = true := by simpa using he
          have he2 : a[k] ≠ b[k] := fun h => he (by rw [h]; simp)
          have Hs := Lib.hid (Hd.out he2)
          clear he2
          go_wp2
          go_quiet (fail)
          go_wp2
          go_ret
          exact ⟨ret_i64 (by rw [Hs.out]), hD.step _⟩
      · have Hk := Lib.hid (Hend.out k Hr.out (by omega))
        have hle : (b.size : Int) ≤ k ∨ (a.size : Int) ≤ k := by omega
        first
        | (have hge : (b.size : Int) ≤ k := by omega
           clear hlt hle
           go_wp2
           go_ret
           exact ⟨ret_i64 (by rw [Hk.out]; omega), hD⟩)
        | (have hge : (a.size : Int) ≤ k := by omega
           clear hlt hle
           go_wp2
           go_ret
           exact ⟨ret_i64 (by rw [Hk.out]; omega), hD⟩)
theorem wrap64_big (n : Nat) (h : n < 18446744073709551616) : IntKind.u64.wrap (n : Int) = n := wraps_u64 _ (by omega) (by omega)
set_option maxRecDepth 8000 in
set_option maxHeartbeats 800000 in
theorem upto_calls (w : World) (B g : Nat) (A : Option Addr) (c : Nat) (x : RdM) (h : RdAt w B g A c x) (most : Int) (hm : 0 ≤ most ∧ most ≤ 4611686018427387904) :
    Calls Try.prog 59 #[.pointer (some ⟨g, 0, none⟩), .int .i64 most] w (RdPost w B g A c (uptoR x most).2 (.int .i64 (uptoR x most).1)) := by
  have Hu := Lib.hid (rdUint_calls w B g A c x h)
  have hlt := UintR_lt x
  unfold uptoR
  generalize UintR x = p at *
  obtain ⟨n, y⟩ := p
  simp only at *
  generalize hr : (if most < (n : Int) then most + 1 else (n : Int)) = r
  have Hr := Lib.hid hr
  clear hr
  have hw : IntKind.u64.wrap most = most := wraps_u64 _ (by omega) (by omega)
  go_enter Try.func59, Try.ntmps59
  go_wp2_with fail
  refine Hu.out.mono ?_
  rintro e w1 ⟨rfl, hrd, hmu⟩
  have Hp := Lib.hid (And.intro hrd hmu)
  clear hrd hmu Hu
  by_cases hbig : most < (n : Int)
  · go_wp2
    go_ret
    exact ⟨ret_i64 (by rw [← Hr.out, if_pos hbig]), Hp.out.1, Hp.out.2⟩
  · 
    have hn : (n : Int) ≤ 4611686018427387904 := by omega
    go_wp2
    go_ret
    exact ⟨ret_i64 (by rw [← Hr.out, if_neg (by omega)]), Hp.out.1, Hp.out.2⟩
end Go.Proofs.Ytaomhedjamnloaa
