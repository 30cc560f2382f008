/- Batches, plain: what is read was told. -/
import Derived.Test.YtaomhedjamnloaaRecP1
import Derived.Test.YtaomhedjamnloaaRRd5
set_option linter.unusedVariables false
set_option linter.unusedSimpArgs false
namespace Go.Proofs.Ytaomhedjamnloaa
open Go Go.RowKit

theorem drop_split {bs a r : List UInt8} {pos : Nat} (h : bs.drop pos = a ++ r) : bs.drop pos = a ++ bs.drop (pos + a.length) := by
  rw [drop_more h]; exact h
theorem UintR_inv {x : RdM} (h : (UintR x).2.err = 0) : x.err = 0 ∧ ∃ n, n < 18446744073709551616 ∧ UintR x = (n, ⟨x.bs, x.pos + (encN n).length, 0⟩) ∧ x.bs.drop x.pos = encN n ++ x.bs.drop (x.pos + (encN n).length) := by
  have he := UintR_ok h
  refine ⟨he, ?_⟩
  unfold UintR at h ⊢
  rw [if_pos he] at h ⊢
  unfold uintR at h ⊢
  cases hg : getU 0 0 (x.bs.drop x.pos) with
  | none =>
    rw [hg] at h
    simp only at h
    exact absurd h (failR_err x (by decide))
  | some p =>
    obtain ⟨n, r, e1, e2, _, e4⟩ := getU_of _ 0 0 p hg (by decide)
    subst e2
    simp only [Nat.zero_add, Nat.mul_zero, Nat.pow_zero, Nat.mul_one] at e4 ⊢
    refine ⟨n, e4, ?_, drop_split e1⟩
    rw [he]
theorem IntR_inv {x : RdM} (h : (IntR x).2.err = 0) : x.err = 0 ∧ ∃ i, (-9223372036854775808 ≤ i ∧ i ≤ 9223372036854775807) ∧ IntR x = (i, ⟨x.bs, x.pos + (encN (zig i)).length, 0⟩) ∧ x.bs.drop x.pos = encN (zig i) ++ x.bs.drop (x.pos + (encN (zig i)).length) := by
  obtain ⟨he, n, hn, e1, e2⟩ := UintR_inv h
  refine ⟨he, zag n, zag_i64 hn, ?_, ?_⟩
  · unfold IntR
    rw [e1, zig_zag]
  · rw [zig_zag]
    exact e2
theorem WithinR_inv {x : RdM} {lo hi : Int} (h : (WithinR x lo hi).2.err = 0) : x.err = 0 ∧ ∃ i, (lo ≤ i ∧ i ≤ hi) ∧ WithinR x lo hi = (i, ⟨x.bs, x.pos + (encN (zig i)).length, 0⟩) ∧ x.bs.drop x.pos = encN (zig i) ++ x.bs.drop (x.pos + (encN (zig i)).length) := by
  unfold WithinR at h ⊢
  split at h
  · rename_i he
    rw [if_pos he]
    refine ⟨he, ?_⟩
    split at h
    · rename_i h1
      rw [if_pos h1]
      split at h
      · cases h
      · rename_i h2
        rw [if_neg h2]
        obtain ⟨_, i, _, e1, e2⟩ := IntR_inv h1
        rw [e1] at h2
        simp only at h2
        exact ⟨i, by omega, e1, e2⟩
    · rename_i h1
      exact absurd h h1
  · rename_i he
    exact absurd h he
theorem drop_one {bs : List UInt8} {pos : Nat} (h : pos < bs.length) : bs.drop pos = [bs.getD pos 0] ++ bs.drop (pos + 1) := by
  rw [List.drop_eq_getElem_cons h, List.getD_eq_getElem?_getD, List.getElem?_eq_getElem h]
  rfl
theorem ByteR_inv {x : RdM} (h : (ByteR x).2.err = 0) (hp : x.pos ≤ x.bs.length) : x.err = 0 ∧ ∃ b : UInt8, ByteR x = ((b.toNat : Int), ⟨x.bs, x.pos + 1, 0⟩) ∧ x.bs.drop x.pos = [b] ++ x.bs.drop (x.pos + 1) := by
  unfold ByteR at h ⊢
  split at h
  · rename_i he
    rw [if_pos he]
    refine ⟨he, ?_⟩
    split at h
    · exact absurd h (failR_err x (by decide))
    · rename_i h1
      rw [if_neg h1]
      refine ⟨_, by rw [he], drop_one ?_⟩
      unfold leftR at h1
      omega
  · rename_i he
    exact absurd h he
theorem FlagR_inv {x : RdM} (h : (FlagR x).2.err = 0) (hp : x.pos ≤ x.bs.length) : x.err = 0 ∧ ∃ b : Bool, FlagR x = (b, ⟨x.bs, x.pos + 1, 0⟩) ∧ x.bs.drop x.pos = [if b then 1 else 0] ++ x.bs.drop (x.pos + 1) := by
  unfold FlagR at h ⊢
  split at h
  · rename_i he
    rw [if_pos he]
    refine ⟨he, ?_⟩
    split at h
    · exact absurd h (failR_err x (by decide))
    · rename_i h1
      rw [if_neg h1]
      have hlt : x.pos < x.bs.length := by
        have : leftR x ≠ 0 := fun h => h1 (.inl h)
        unfold leftR at this
        omega
      have hle : (x.bs.getD x.pos 0).toNat ≤ 1 := by omega
      refine ⟨_, by rw [he], ?_⟩
      rw [drop_one hlt]
      congr 2
      generalize x.bs.getD x.pos 0 = b at *
      by_cases h2 : b.toNat = 1
      · rw [if_pos (by simp [h2])]
        exact UInt8.toNat_inj.1 h2
      · rw [if_neg (by simp [h2])]
        exact UInt8.toNat_inj.1 (by show b.toNat = 0; omega)
  · rename_i he
    exact absurd h he
theorem TextR_inv {x : RdM} {most : Int} (h : (TextR x most).2.err = 0) (hp : x.pos ≤ x.bs.length) : x.err = 0 ∧ ∃ s : ByteArray, (s.size : Int) ≤ max most 0 ∧ TextR x most = (s, ⟨x.bs, x.pos + (encT s).length, 0⟩) ∧ x.bs.drop x.pos = encT s ++ x.bs.drop (x.pos + (encT s).length) := by
  unfold TextR at h ⊢
  split at h
  · rename_i he
    rw [if_pos he]
    refine ⟨he, ?_⟩
    split at h
    · rename_i h1
      rw [if_pos h1]
      have hU : uintR x = UintR x := (if_pos he).symm
      rw [hU] at h h1 ⊢
      obtain ⟨_, n, hn, e1, e2⟩ := UintR_inv h1
      rw [e1] at h ⊢
      simp only at h ⊢
      split at h
      · exact absurd h (by unfold backR; exact failR_err _ (by decide))
      · rename_i h2
        rw [if_neg h2]
        split at h
        · exact absurd h (by unfold backR; exact failR_err _ (by decide))
        · rename_i h3
          rw [if_neg h3]
          have hlen := drop_len e2 hp
          unfold leftR at h3
          simp only at h3
          have ht : ((x.bs.drop (x.pos + (encN n).length)).take n).length = n := by
            rw [List.length_take, List.length_drop]
            omega
          have hsz : (⟨((x.bs.drop (x.pos + (encN n).length)).take n).toArray⟩ : ByteArray).size = n := by
            show (((x.bs.drop (x.pos + (encN n).length)).take n).toArray).size = n
            simpa using ht
          have hT : encT ⟨((x.bs.drop (x.pos + (encN n).length)).take n).toArray⟩ = encN n ++ (x.bs.drop (x.pos + (encN n).length)).take n := by
            unfold encT
            rw [hsz]
          refine ⟨_, by rw [hsz]; omega, ?_, ?_⟩
          · rw [hT, List.length_append, ht, Nat.add_assoc]
          · have hd : x.bs.drop (x.pos + (encN n).length + n) = (x.bs.drop (x.pos + (encN n).length)).drop n := by rw [List.drop_drop]
            rw [hT, List.append_assoc, List.length_append, ht, ← Nat.add_assoc, hd, List.take_append_drop]
            exact e2
    · rename_i h1
      exact absurd h (by unfold backR; exact h1)
  · rename_i he
    exact absurd h he
theorem uptoR_inv {x : RdM} {most : Int} (h : (uptoR x most).2.err = 0) : x.err = 0 ∧ ∃ n : Nat, n < 18446744073709551616 ∧ uptoR x most = (if most < (n : Int) then most + 1 else (n : Int), ⟨x.bs, x.pos + (encN n).length, 0⟩) ∧ x.bs.drop x.pos = encN n ++ x.bs.drop (x.pos + (encN n).length) := by
  obtain ⟨he, n, hn, e1, e2⟩ := UintR_inv h
  refine ⟨he, n, hn, ?_, e2⟩
  unfold uptoR
  rw [e1]
/-- .. and the number is not beyond. -/
theorem uptoR_in {x : RdM} {most : Int} (h : (uptoR x most).2.err = 0) (hm : (uptoR x most).1 ≤ most) : ∃ n : Nat, (n : Int) ≤ most ∧ uptoR x most = ((n : Int), ⟨x.bs, x.pos + (encN n).length, 0⟩) ∧ x.bs.drop x.pos = encN n ++ x.bs.drop (x.pos + (encN n).length) := by
  obtain ⟨he, n, hn, e1, e2⟩ := uptoR_inv h
  rw [e1] at hm
  simp only at hm
  split at hm
  · omega
  · rename_i h1
    refine ⟨n, by omega, ?_, e2⟩
    rw [e1, if_neg h1]
theorem cutK_back (a s : List UInt8) (n : Nat) (h : n ≤ a.length) : cutK ⟨(a.take n ++ s).toArray⟩ n = ⟨s.toArray⟩ := by
  unfold cutK
  simp only [List.toList_toArray]
  rw [List.drop_append, List.drop_of_length_le (by rw [List.length_take]; omega), List.length_take, show n - min n a.length = 0 by omega]
  rfl
theorem WithinR_ok {x : RdM} {lo hi : Int} (h : (WithinR x lo hi).2.err = 0) : x.err = 0 := (WithinR_inv h).1
theorem uptoR_ok {x : RdM} {most : Int} (h : (uptoR x most).2.err = 0) : x.err = 0 := (uptoR_inv h).1
theorem FlagR_ok {x : RdM} (h : (FlagR x).2.err = 0) : x.err = 0 := by
  unfold FlagR at h
  split at h
  · assumption
  · exact h
theorem ByteR_ok {x : RdM} (h : (ByteR x).2.err = 0) : x.err = 0 := by
  unfold ByteR at h
  split at h
  · assumption
  · exact h
theorem TextR_ok {x : RdM} {most : Int} (h : (TextR x most).2.err = 0) : x.err = 0 := by
  unfold TextR at h
  split at h
  · assumption
  · exact h
theorem readR_inv {x y : RdM} {t : Int} {a : ByteArray} {r : Rc} (h : readR x t a = some (r, y)) (hp : x.pos ≤ x.bs.length) (ha : a.size ≤ 1024) :
    x.err = 0 ∧ y = ⟨x.bs, x.pos + (encR t a r).length, 0⟩ ∧ x.bs.drop x.pos = encR t a r ++ x.bs.drop (x.pos + (encR t a r).length) := by
  unfold readR at h
  simp only at h
  by_cases h1 : (a.size : Int) < (uptoR (FlagR (WithinR x (-1099511627776) 1099511627776).2).2 1024).1
  · rw [if_pos h1] at h
    cases h
  rw [if_neg h1] at h
  generalize hT : WithinR x (-1099511627776) 1099511627776 = T at *
  generalize hF : FlagR T.2 = G at *
  generalize hU : uptoR G.2 1024 = U at *
  generalize hS : TextR U.2 1024 = S at *
  generalize hK : (⟨(a.data.toList.take U.1.toNat ++ S.1.data.toList).toArray⟩ : ByteArray) = key at *
  generalize hV : (if G.1 = true then ((⟨#[]⟩ : ByteArray), S.2) else TextR S.2 1024) = V at *
  by_cases h2 : V.2.err = 0 ∧ (keyN a key : Int) = U.1
  · rw [if_pos h2] at h
    obtain ⟨h2, h3⟩ := h2
    injection h with h
    injection h with hr hy
    have hsz : a.data.toList.length = a.size := Array.length_toList
    have h4 : S.2.err = 0 := by
      by_cases hg : G.1 = true
      · rw [if_pos hg] at hV; rw [← hV] at h2; exact h2
      · rw [if_neg hg] at hV; rw [← hV] at h2; exact TextR_ok h2
    have h5 : U.2.err = 0 := by rw [← hS] at h4; exact TextR_ok h4
    have h6 : G.2.err = 0 := by rw [← hU] at h5; exact uptoR_ok h5
    have h7 : T.2.err = 0 := by rw [← hF] at h6; exact FlagR_ok h6
    rw [← hT] at h7
    obtain ⟨h8, i, hi, e1, d1⟩ := WithinR_inv h7
    have p1 := drop_len d1 hp
    rw [e1] at hT
    subst hT
    rw [← hF] at h6
    obtain ⟨_, f, e2, d2⟩ := FlagR_inv h6 p1
    rw [e2] at hF
    subst hF
    simp only at *
    have p2 := drop_len d2 p1
    rw [show ([if f = true then 1 else 0] : List UInt8).length = 1 from rfl] at p2
    rw [← hU] at h5 h1
    obtain ⟨n, hn, e3, d3⟩ := uptoR_in h5 (by omega)
    rw [e3] at hU h1
    subst hU
    simp only at *
    have p3 := drop_len d3 p2
    rw [← hS] at h4
    obtain ⟨_, s, hs, e4, d4⟩ := TextR_inv h4 p3
    rw [e4] at hS
    subst hS
    simp only [Int.toNat_natCast] at *
    have p4 := drop_len d4 p3
    have hcut := cutK_back a.data.toList s.data.toList n (by omega)
    rw [Array.toArray_toList, hK] at hcut
    have hkn : keyN a key = n := by omega
    cases f with
    | true =>
      simp only [if_true] at hV d2
      subst hV
      subst hr
      have e5 : encR t a (key, ⟨#[]⟩, true, t + i) = encN (zig i) ++ ([1] ++ (encN n ++ (encT s ++ []))) := by
        unfold encR
        simp only [if_true]
        rw [hkn, hcut, show t + i - t = i by omega]
      rw [e5, ← hy, List.append_nil]
      refine ⟨h8, ?_, ?_⟩
      · simp only [List.length_append, List.length_singleton]
        congr 1
        omega
      · rw [d1, d2, d3, d4]
        simp only [List.append_assoc, List.length_append, List.length_singleton, Nat.add_assoc]
    | false =>
      simp only [Bool.false_eq_true, if_false] at hV d2
      rw [← hV] at h2
      obtain ⟨_, v, hv, e6, d6⟩ := TextR_inv h2 p4
      rw [e6] at hV
      subst hV
      simp only at hr hy
      subst hr
      have e5 : encR t a (key, v, false, t + i) = encN (zig i) ++ ([0] ++ (encN n ++ (encT s ++ encT v))) := by
        unfold encR
        simp only [Bool.false_eq_true, if_false]
        rw [hkn, hcut, show t + i - t = i by omega]
      rw [e5, ← hy]
      refine ⟨h8, ?_, ?_⟩
      · simp only [List.length_append, List.length_singleton]
        congr 1
        omega
      · rw [d1, d2, d3, d4, d6]
        simp only [List.append_assoc, List.length_append, List.length_singleton, Nat.add_assoc]
  · rw [if_neg h2] at h
    cases h
theorem readsR_inv {t : Int} : ∀ (n : Nat) {x y : RdM} {a : ByteArray} {l : List Rc}, readsR t n x a = some (l, y) → y.err = 0 → x.pos ≤ x.bs.length → a.size ≤ 1024 → recsE l = 0 →
    x.err = 0 ∧ l.length = n ∧ y = ⟨x.bs, x.pos + (encRs t a l).length, 0⟩ ∧ x.bs.drop x.pos = encRs t a l ++ x.bs.drop (x.pos + (encRs t a l).length)
  | 0, x, y, a, l, h, hy, hp, ha, hr => by
    unfold readsR at h
    injection h with h
    injection h with h1 h2
    subst h1; subst h2
    refine ⟨hy, rfl, ?_, by simp [encRs]⟩
    rw [← hy]
    rfl
  | n + 1, x, y, a, l, h, hy, hp, ha, hr => by
    rw [readsR] at h
    cases h1 : readR x t a with
    | none => rw [h1] at h; cases h
    | some p =>
      obtain ⟨r, z⟩ := p
      rw [h1] at h
      simp only at h
      cases h2 : readsR t n z r.1 with
      | none => rw [h2] at h; cases h
      | some q =>
        obtain ⟨l2, y2⟩ := q
        rw [h2] at h
        simp only at h
        injection h with h
        injection h with e1 e2
        subst e1; subst e2
        obtain ⟨k1, rfl, k3⟩ := readR_inv h1 hp ha
        have hr0 := recsE_ok hr r (List.mem_cons_self ..)
        have hrl : recsE l2 = 0 := by
          unfold recsE at hr
          rw [if_pos hr0] at hr
          exact hr
        have p1 := drop_len k3 hp
        obtain ⟨_, m2, m3, m4⟩ := readsR_inv n h2 hy p1 (recE_ok hr0).1 hrl
        refine ⟨k1, by simp [m2], ?_, ?_⟩
        · rw [m3]
          simp only [encRs, List.length_append, Nat.add_assoc]
        · rw [k3]
          simp only at m4
          rw [m4]
          simp only [encRs, List.length_append, Nat.add_assoc, List.append_assoc]
/-- A head's reading gone back: the errors. -/
theorem headR_ok {x : RdM} (h : (headR x).2.err = 0) : (uptoR (uptoR (ByteR x).2 1099511627776).2 1048576).2.err = 0 := by
  unfold headR at h
  simp only at h
  generalize uptoR (uptoR (ByteR x).2 1099511627776).2 1048576 = P at *
  have h5 := uptoR_ok h
  generalize hE : (if 0 < P.1 then uptoR P.2 32767 else (0, P.2)) = E at *
  have h4 : E.2.err = 0 := by
    by_cases hc : 0 < P.1 ∧ ((ByteR x).1 == 2 || (ByteR x).1 == 3) = false
    · rw [if_pos hc] at h5; exact uptoR_ok h5
    · rw [if_neg hc] at h5; exact h5
  by_cases hc : 0 < P.1
  · rw [if_pos hc] at hE; rw [← hE] at h4; exact uptoR_ok h4
  · rw [if_neg hc] at hE; rw [← hE] at h4; exact h4
theorem headR_inv {x : RdM} (h : (headR x).2.err = 0) (hp : x.pos ≤ x.bs.length) (hv : BtNums (headR x).1) :
    x.err = 0 ∧ (headR x).2 = ⟨x.bs, x.pos + (encHd (headR x).1).length, 0⟩ ∧ x.bs.drop x.pos = encHd (headR x).1 ++ x.bs.drop (x.pos + (encHd (headR x).1).length) := by
  have h3 := headR_ok h
  generalize hH : headR x = H at *
  obtain ⟨hk, hb, hpi, he, hs, ht⟩ := hv
  unfold headR at hH
  simp only at hH
  generalize hK : ByteR x = K at *
  generalize hA : uptoR K.2 1099511627776 = A at *
  generalize hP : uptoR A.2 1048576 = P at *
  generalize hE : (if 0 < P.1 then uptoR P.2 32767 else (0, P.2)) = E at *
  generalize hS : (if 0 < P.1 ∧ (K.1 == 2 || K.1 == 3) = false then uptoR E.2 2147483647 else (0, E.2)) = S at *
  generalize hT : uptoR S.2 1099511627776 = T at *
  subst hH
  simp only at *
  rw [← hT] at h ht
  obtain ⟨nt, hnt, e6, d6⟩ := uptoR_in h ht.2
  have h5 := uptoR_ok h
  rw [e6] at hT
  have h2 : A.2.err = 0 := by rw [← hP] at h3; exact uptoR_ok h3
  have h1 : K.2.err = 0 := by rw [← hA] at h2; exact uptoR_ok h2
  rw [← hK] at h1
  obtain ⟨h0, kb, e1, d1⟩ := ByteR_inv h1 hp
  rw [e1] at hK
  subst hK
  have p1 := drop_len d1 hp
  rw [List.length_singleton] at p1
  rw [← hA] at h2 hb
  obtain ⟨nb, hnb, e2, d2⟩ := uptoR_in h2 hb.2
  rw [e2] at hA
  subst hA
  have p2 := drop_len d2 p1
  rw [← hP] at h3 hpi
  obtain ⟨np, hnp, e3, d3⟩ := uptoR_in h3 hpi.2
  rw [e3] at hP
  subst hP
  have p3 := drop_len d3 p2
  refine ⟨h0, ?_⟩
  simp only at *
  by_cases hp0 : 0 < (np : Int)
  · rw [if_pos hp0] at hE
    have h4 : E.2.err = 0 := by
      by_cases hc : 0 < (np : Int) ∧ ((kb.toNat : Int) == 2 || (kb.toNat : Int) == 3) = false
      · rw [if_pos hc] at hS; rw [← hS] at h5; exact uptoR_ok h5
      · rw [if_neg hc] at hS; rw [← hS] at h5; exact h5
    rw [← hE] at h4 he
    obtain ⟨ne, hne, e4, d4⟩ := uptoR_in h4 he.2
    rw [e4] at hE
    subst hE
    have p4 := drop_len d4 p3
    simp only at *
    cases hmk : ((kb.toNat : Int) == 2 || (kb.toNat : Int) == 3) with
    | true =>
      rw [hmk, if_neg (by simp)] at hS
      subst hS
      subst hT
      have e7 : encHd ⟨(nb : Int), np, ne, 0, kb.toNat, nt, []⟩ = [kb] ++ (encN nb ++ (encN np ++ ((encN ne ++ []) ++ encN nt))) := by
        unfold encHd
        rw [if_pos hp0, if_pos (by exact hmk)]
        simp only [Int.toNat_natCast, UInt8.ofNat_toNat]
      simp only
      rw [e7]
      simp only [List.append_nil, List.append_assoc, List.length_append, List.length_singleton]
      simp only at d6
      refine ⟨by congr 1; omega, ?_⟩
      rw [d1, d2, d3, d4, d6]
      simp only [List.append_assoc, Nat.add_assoc]
    | false =>
      rw [hmk, if_pos ⟨hp0, rfl⟩] at hS
      rw [← hS] at h5 hs
      obtain ⟨ns, hns, e5, d5⟩ := uptoR_in h5 hs.2
      rw [e5] at hS
      subst hS
      subst hT
      have e7 : encHd ⟨(nb : Int), np, ne, ns, kb.toNat, nt, []⟩ = [kb] ++ (encN nb ++ (encN np ++ ((encN ne ++ encN ns) ++ encN nt))) := by
        unfold encHd
        rw [if_pos hp0, if_neg (by intro hc; have hc2 : ((kb.toNat : Int) == 2 || (kb.toNat : Int) == 3) = true := hc; rw [hmk] at hc2; cases hc2)]
        simp only [Int.toNat_natCast, UInt8.ofNat_toNat]
      simp only
      rw [e7]
      simp only [List.append_nil, List.append_assoc, List.length_append, List.length_singleton]
      simp only at d6
      refine ⟨by congr 1; omega, ?_⟩
      rw [d1, d2, d3, d4, d5, d6]
      simp only [List.append_assoc, Nat.add_assoc]
  · rw [if_neg hp0] at hE
    subst hE
    rw [if_neg (fun hc => hp0 hc.1)] at hS
    subst hS
    subst hT
    have e7 : encHd ⟨(nb : Int), np, 0, 0, kb.toNat, nt, []⟩ = [kb] ++ (encN nb ++ (encN np ++ ([] ++ encN nt))) := by
      unfold encHd
      rw [if_neg hp0]
      simp only [Int.toNat_natCast, UInt8.ofNat_toNat]
    simp only
    rw [e7]
    simp only [List.nil_append, List.append_assoc, List.length_append, List.length_singleton]
    simp only at d6
    refine ⟨by congr 1; omega, ?_⟩
    rw [d1, d2, d3, d6]
    simp only [List.append_assoc, Nat.add_assoc]
theorem EndR_inv {y : RdM} (h : (EndR y).err = 0) : y.err = 0 ∧ y.bs.length ≤ y.pos := by
  unfold EndR at h
  split at h
  · exact absurd h (failR_err y (by decide))
  · rename_i h1
    unfold leftR at h1
    exact ⟨h, by omega⟩
theorem readR_ok {x y : RdM} {t : Int} {a : ByteArray} {r : Rc} (h : readR x t a = some (r, y)) : x.err = 0 := by
  unfold readR at h
  simp only at h
  by_cases h1 : (a.size : Int) < (uptoR (FlagR (WithinR x (-1099511627776) 1099511627776).2).2 1024).1
  · rw [if_pos h1] at h
    cases h
  rw [if_neg h1] at h
  generalize hS : TextR (uptoR (FlagR (WithinR x (-1099511627776) 1099511627776).2).2 1024).2 1024 = S at *
  generalize hV : (if (FlagR (WithinR x (-1099511627776) 1099511627776).2).1 = true then ((⟨#[]⟩ : ByteArray), S.2) else TextR S.2 1024) = V at *
  by_cases h2 : V.2.err = 0 ∧ (keyN a ⟨(a.data.toList.take (uptoR (FlagR (WithinR x (-1099511627776) 1099511627776).2).2 1024).1.toNat ++ S.1.data.toList).toArray⟩ : Int) = (uptoR (FlagR (WithinR x (-1099511627776) 1099511627776).2).2 1024).1
  · obtain ⟨h2, _⟩ := h2
    have h4 : S.2.err = 0 := by
      by_cases hg : (FlagR (WithinR x (-1099511627776) 1099511627776).2).1 = true
      · rw [if_pos hg] at hV; rw [← hV] at h2; exact h2
      · rw [if_neg hg] at hV; rw [← hV] at h2; exact TextR_ok h2
    rw [← hS] at h4
    exact WithinR_ok (FlagR_ok (uptoR_ok (TextR_ok h4)))
  · rw [if_neg h2] at h
    cases h
theorem readsR_ok {t : Int} : ∀ (n : Nat) {x y : RdM} {a : ByteArray} {l : List Rc}, readsR t n x a = some (l, y) → y.err = 0 → x.err = 0
  | 0, x, y, a, l, h, hy => by
    unfold readsR at h
    injection h with h
    injection h with h1 h2
    rw [h2]; exact hy
  | n + 1, x, y, a, l, h, hy => by
    rw [readsR] at h
    cases h1 : readR x t a with
    | none => rw [h1] at h; cases h
    | some p =>
      obtain ⟨r, z⟩ := p
      exact readR_ok h1
theorem bodyR_inv {bs : List UInt8} {b : BtM} {y : RdM} (h : bodyR ⟨bs, 0, 0⟩ = some (b, y)) (hy : y.err = 0) (hv : validE b = 0) : bs = encB b ++ bs.drop y.pos ∧ y.bs = bs := by
  have hf := (validE_iff b).1 hv
  unfold bodyR at h
  simp only at h
  by_cases h1 : (ByteR ⟨bs, 0, 0⟩).1 ≠ 1
  · rw [if_pos h1] at h; cases h
  rw [if_neg h1] at h
  generalize hV : ByteR ⟨bs, 0, 0⟩ = V at *
  by_cases h2 : (headR V.2).2.err ≠ 0 ∨ 1099511627776 < (headR V.2).1.time
  · rw [if_pos h2] at h; cases h
  rw [if_neg h2] at h
  have h2e : (headR V.2).2.err = 0 := Decidable.of_not_not fun q => h2 (.inl q)
  have hb0 : V.2.err = 0 := ByteR_ok (uptoR_ok (uptoR_ok (headR_ok h2e)))
  rw [← hV] at hb0
  obtain ⟨_, v, e1, d1⟩ := ByteR_inv hb0 (Nat.zero_le _)
  rw [e1] at hV
  subst hV
  have p1 := drop_len d1 (Nat.zero_le _)
  simp only at *
  have hv1 : v = 1 := UInt8.toNat_inj.1 (by show v.toNat = 1; omega)
  subst hv1
  have hN : BtNums (headR ⟨bs, 0 + 1, 0⟩).1 := by
    have hn := hf.nums
    split at h
    · injection h with h
      rw [h]
      exact hn
    · split at h
      · cases h
      · split at h
        · cases h
        · injection h with h
          injection h with h _
          rw [← h] at hn
          exact ⟨hn.kind, hn.base, hn.pid, hn.epoch, hn.seq, hn.time⟩
  obtain ⟨_, e2, d2⟩ := headR_inv h2e p1 hN
  have p2 := drop_len d2 p1
  generalize headR ⟨bs, 0 + 1, 0⟩ = H at *
  obtain ⟨hb, hr⟩ := H
  simp only at *
  subst e2
  have hml : ∀ l, markB { hb with l := l } = markB hb := fun l => rfl
  have hel : ∀ l, encHd { hb with l := l } = encHd hb := fun l => rfl
  rw [List.drop_zero] at d1
  by_cases hm : markB hb = true
  · rw [if_pos hm] at h
    injection h with h
    injection h with h3 h4
    subst h3; subst h4
    refine ⟨?_, rfl⟩
    unfold encB
    rw [if_pos hm, encHead_eq, List.append_nil, List.append_assoc, ← d2, ← d1]
  · rw [if_neg hm] at h
    generalize hU : uptoR ⟨bs, 0 + 1 + (encHd hb).length, 0⟩ 64 = U at *
    by_cases h3 : 64 < U.1
    · rw [if_pos h3] at h; cases h
    rw [if_neg h3] at h
    cases hrs : readsR hb.time U.1.toNat U.2 ⟨#[]⟩ with
    | none => rw [hrs] at h; cases h
    | some q =>
      obtain ⟨l, y2⟩ := q
      rw [hrs] at h
      simp only at h
      injection h with h
      injection h with h4 h5
      subst h4; subst h5
      have hu0 := readsR_ok _ hrs hy
      rw [← hU] at hu0 h3
      obtain ⟨n, hn, e3, d3⟩ := uptoR_in hu0 (by omega)
      rw [e3] at hU
      subst hU
      have p3 := drop_len d3 p2
      simp only [Int.toNat_natCast] at *
      obtain ⟨_, hln, rfl, d4⟩ := readsR_inv n hrs hy p3 (Nat.zero_le _) hf.recs
      refine ⟨?_, rfl⟩
      unfold encB
      rw [hml, if_neg hm, encHead_eq, hel]
      simp only [List.append_assoc]
      simp only at d2 d3 d4
      subst hln
      rw [← d4, ← d3, ← d2, ← d1]
/-- Of any bytes: they are a batch's just if it is read of them. -/
theorem decB_some {bs : List UInt8} {b : BtM} (h : decB bs = some b) : bs = encB b ∧ validE b = 0 := by
  unfold decB at h
  cases h1 : bodyR ⟨bs, 0, 0⟩ with
  | none => rw [h1] at h; cases h
  | some p =>
    obtain ⟨b', y⟩ := p
    rw [h1] at h
    simp only at h
    by_cases h2 : (EndR y).err = 0 ∧ validE b' = 0
    · rw [if_pos h2] at h
      injection h with h
      subst h
      obtain ⟨e1, e2⟩ := EndR_inv h2.1
      have h3 := bodyR_inv h1 e1 h2.2
      refine ⟨?_, h2.2⟩
      obtain ⟨h3, hb⟩ := h3
      rw [hb] at e2
      rw [List.drop_of_length_le (by omega), List.append_nil] at h3
      exact h3
    · rw [if_neg h2] at h; cases h
/-- A batch's bytes that were cut off are none. -/
theorem decB_cut {b : BtM} (hv : validE b = 0) {n : Nat} (hn : n < (encB b).length) : decB ((encB b).take n) = none := by
  cases h : decB ((encB b).take n) with
  | none => rfl
  | some b' =>
    obtain ⟨h1, h2⟩ := decB_some h
    have e1 := bodyR_enc (q := []) hv
    have e2 := bodyR_enc (q := (encB b).drop n) h2
    rw [← h1, List.take_append_drop, List.length_take] at e2
    rw [List.append_nil, e2] at e1
    injection e1 with e1
    injection e1 with _ e1
    injection e1 with _ e1 _
    omega
theorem encB_inj {a b : BtM} (ha : validE a = 0) (hb : validE b = 0) (h : encB a = encB b) : a = b := by
  have h1 := decB_enc ha
  rw [h, decB_enc hb] at h1
  injection h1 with h1
  exact h1.symm
end Go.Proofs.Ytaomhedjamnloaa
