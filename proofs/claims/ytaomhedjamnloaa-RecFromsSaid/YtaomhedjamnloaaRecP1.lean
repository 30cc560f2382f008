/- Batches, plain: what was told is read again, and what is read was told. -/
import Derived.Test.YtaomhedjamnloaaRecP
set_option linter.unusedVariables false
set_option linter.unusedSimpArgs false
namespace Go.Proofs.Ytaomhedjamnloaa
open Go Go.RowKit

theorem alikeN_le : ∀ (s t : List UInt8), alikeN s t ≤ s.length ∧ alikeN s t ≤ t.length
  | [], t => by simp [alikeN]
  | a :: s, [] => by simp [alikeN]
  | a :: s, b :: t => by
    unfold alikeN
    have := alikeN_le s t
    split
    · simp only [List.length_cons]; omega
    · simp
theorem alikeN_take : ∀ (s t : List UInt8), s.take (alikeN s t) = t.take (alikeN s t)
  | [], t => by simp [alikeN]
  | a :: s, [] => by simp [alikeN]
  | a :: s, b :: t => by
    unfold alikeN
    split
    · rename_i h
      rw [List.take_succ_cons, List.take_succ_cons, h, alikeN_take s t]
    · simp
theorem key_back (a b : ByteArray) : (⟨(a.data.toList.take (keyN a b) ++ (cutK b (keyN a b)).data.toList).toArray⟩ : ByteArray) = b := by
  unfold keyN cutK
  rw [alikeN_take]
  simp only [Array.toArray_toList, List.take_append_drop]
theorem cutK_size (s : ByteArray) (n : Nat) : (cutK s n).size = s.size - n := by
  show (s.data.toList.drop n).toArray.size = s.data.size - n
  simp
theorem keyN_le (a b : ByteArray) : keyN a b ≤ a.size ∧ keyN a b ≤ b.size := by
  have := alikeN_le a.data.toList b.data.toList
  simp only [Array.length_toList] at this
  exact this
/-! ### Told, then read -/
theorem WithinR_enc {bs r : List UInt8} {pos : Nat} {i lo hi : Int} (h : bs.drop pos = encN (zig i) ++ r) (hi64 : -9223372036854775808 ≤ i ∧ i ≤ 9223372036854775807) (hl : lo ≤ i) (hh : i ≤ hi) : WithinR ⟨bs, pos, 0⟩ lo hi = (i, ⟨bs, pos + (encN (zig i)).length, 0⟩) := by
  unfold WithinR
  rw [if_pos rfl, IntR_enc h hi64, if_pos rfl, if_neg (by simp only; omega)]
theorem uptoR_enc {bs r : List UInt8} {pos n : Nat} {most : Int} (h : bs.drop pos = encN n ++ r) (hn : n < 18446744073709551616) (hm : (n : Int) ≤ most) : uptoR ⟨bs, pos, 0⟩ most = ((n : Int), ⟨bs, pos + (encN n).length, 0⟩) := by
  unfold uptoR
  rw [UintR_enc h hn, if_neg (by simp only; omega)]
theorem ByteR_enc {bs r : List UInt8} {pos : Nat} {b : UInt8} (h : bs.drop pos = [b] ++ r) (hp : pos ≤ bs.length) : ByteR ⟨bs, pos, 0⟩ = ((b.toNat : Int), ⟨bs, pos + 1, 0⟩) := by
  have h3 := drop_len h hp
  have hg : bs.getD pos 0 = b := by
    have : (bs.drop pos)[0]? = some b := by rw [h]; rfl
    rw [List.getElem?_drop, Nat.add_zero] at this
    rw [List.getD_eq_getElem?_getD, this]
    rfl
  unfold ByteR
  rw [if_pos rfl, if_neg (by unfold leftR; simp only [List.length_singleton] at h3 ⊢; omega)]
  simp only [hg]
theorem recE_ok {r : Rc} (h : recE r = 0) : r.1.size ≤ 1024 ∧ r.2.1.size ≤ 1024 ∧ 0 ≤ r.2.2.2 ∧ r.2.2.2 ≤ 1099511627776 ∧ (r.2.2.1 = true → r.2.1 = ⟨#[]⟩) := by
  unfold recE at h
  split at h
  · omega
  · rename_i h1
    split at h
    · omega
    · rename_i h2
      refine ⟨by omega, by omega, by omega, by omega, fun hg => ?_⟩
      have h0 : r.2.1.size = 0 := by
        rcases Nat.eq_zero_or_pos r.2.1.size with h0 | h0
        · exact h0
        · exact absurd (.inr ⟨hg, by omega⟩) h2
      cases hq : r.2.1 with
      | mk d =>
        rw [hq] at h0
        congr 1
        exact Array.eq_empty_of_size_eq_zero h0
theorem readR_enc {bs q : List UInt8} {pos : Nat} {t : Int} {a : ByteArray} {r : Rc} (h : bs.drop pos = encR t a r ++ q) (hp : pos ≤ bs.length) (ht : 0 ≤ t ∧ t ≤ 1099511627776) (ha : a.size ≤ 1024) (hr : recE r = 0) :
    readR ⟨bs, pos, 0⟩ t a = some (r, ⟨bs, pos + (encR t a r).length, 0⟩) := by
  obtain ⟨h1, h2, h3, h4, h5⟩ := recE_ok hr
  have hk := keyN_le a r.1
  have hcs := cutK_size r.1 (keyN a r.1)
  unfold encR at h
  simp only [List.append_assoc] at h
  have e1 := WithinR_enc (lo := -1099511627776) (hi := 1099511627776) h (by omega) (by omega) (by omega)
  have p1 := drop_len h hp
  have h := drop_more h
  have e2 := FlagR_enc h p1
  have p2 := drop_len h p1
  have h := drop_more h
  rw [show ([if r.2.2.1 = true then 1 else 0] : List UInt8).length = 1 from rfl] at h p2
  have e3 := uptoR_enc (most := 1024) h (by omega) (by omega)
  have p3 := drop_len h p2
  have h := drop_more h
  have e4 := TextR_enc (most := 1024) h p3 (by omega) (by omega)
  have p4 := drop_len h p3
  have h := drop_more h
  have hkb := key_back a r.1
  unfold readR
  simp only [e1, e2, e3, e4]
  rw [if_neg (by omega)]
  simp only [Int.toNat_natCast, hkb]
  obtain ⟨k, v, g, tm⟩ := r
  simp only at *
  cases g with
  | true =>
    simp only [if_true]
    rw [if_pos ⟨trivial, trivial⟩, h5 rfl]
    simp only [encR, if_true, List.append_nil, List.length_append]
    congr 2
    · congr 3; omega
    · congr 1
      simp only [List.length_singleton]
      omega
  | false =>
    simp only [Bool.false_eq_true, if_false] at h ⊢
    have e5 := TextR_enc (most := 1024) h p4 (by omega) (by omega)
    rw [e5]
    simp only
    rw [if_pos ⟨trivial, trivial⟩]
    simp only [encR, Bool.false_eq_true, if_false, List.length_append]
    congr 2
    · congr 3; omega
    · congr 1
      simp only [List.length_singleton]
      omega
theorem recsE_ok : ∀ {l : List Rc}, recsE l = 0 → ∀ r ∈ l, recE r = 0
  | [], _, r, h => by cases h
  | x :: l, h, r, hm => by
    unfold recsE at h
    split at h
    · rename_i h0
      rcases List.mem_cons.1 hm with rfl | hm
      · exact h0
      · exact recsE_ok h r hm
    · rename_i h0; exact absurd h h0
theorem readsR_enc {bs : List UInt8} {t : Int} (ht : 0 ≤ t ∧ t ≤ 1099511627776) : ∀ (l : List Rc) (pos : Nat) (a : ByteArray) (q : List UInt8), bs.drop pos = encRs t a l ++ q → pos ≤ bs.length → a.size ≤ 1024 → recsE l = 0 →
    readsR t l.length ⟨bs, pos, 0⟩ a = some (l, ⟨bs, pos + (encRs t a l).length, 0⟩)
  | [], pos, a, q, h, hp, ha, hr => rfl
  | r :: l, pos, a, q, h, hp, ha, hr => by
    have hr0 := recsE_ok hr r (List.mem_cons_self ..)
    have hrl : recsE l = 0 := by
      unfold recsE at hr
      rw [if_pos hr0] at hr
      exact hr
    rw [encRs, List.append_assoc] at h
    have e1 := readR_enc h hp ht ha hr0
    have e2 := readsR_enc ht l _ r.1 q (drop_more h) (drop_len h hp) (recE_ok hr0).1 hrl
    rw [List.length_cons, readsR, e1]
    simp only
    rw [e2]
    simp only [encRs, List.length_append, Nat.add_assoc]
structure BtNums (b : BtM) : Prop where
  kind : 0 ≤ b.kind ∧ b.kind ≤ 3
  base : 0 ≤ b.base ∧ b.base ≤ 1099511627776
  pid : 0 ≤ b.pid ∧ b.pid ≤ 1048576
  epoch : 0 ≤ b.epoch ∧ b.epoch ≤ 32767
  seq : 0 ≤ b.seq ∧ b.seq ≤ 2147483647
  time : 0 ≤ b.time ∧ b.time ≤ 1099511627776
theorem numB_iff (b : BtM) : numB b = true ↔ BtNums b := by
  unfold numB
  rw [decide_eq_true_iff]
  exact ⟨fun ⟨a1, a2, a3, a4, a5, a6, a7, a8, a9, a10⟩ => ⟨⟨a1, a2⟩, a3, a4, ⟨a5, a6⟩, ⟨a7, a8⟩, ⟨a9, a10⟩⟩, fun ⟨⟨a1, a2⟩, a3, a4, ⟨a5, a6⟩, ⟨a7, a8⟩, ⟨a9, a10⟩⟩ => ⟨a1, a2, a3, a4, a5, a6, a7, a8, a9, a10⟩⟩
theorem bool_true {b : Bool} (h : b ≠ false) : b = true := by cases b; exact absurd rfl h; rfl
structure BtFine (b : BtM) : Prop where
  nums : BtNums b
  fits : fitsB b = true
  len : b.l.length ≤ 64
  recs : recsE b.l = 0
  over : overB b = false
theorem validE_iff (b : BtM) : validE b = 0 ↔ BtFine b := by
  unfold validE
  constructor
  · intro h
    split at h
    · omega
    · rename_i h1
      split at h
      · omega
      · split at h
        · rename_i h3; exact absurd h h3
        · split at h
          · omega
          · rename_i h2 h3 h4
            exact ⟨(numB_iff b).1 (bool_true fun hq => h1 (.inl hq)), bool_true fun hq => h1 (.inr hq), by omega, Decidable.of_not_not h3, by simpa using h4⟩
  · rintro ⟨h1, h2, h3, h4, h5⟩
    rw [if_neg (by rw [(numB_iff b).2 h1, h2]; decide), if_neg (by omega), if_neg (by rw [h4]; exact fun h => h rfl), if_neg (by rw [h5]; decide)]
theorem BtFine.mark {b : BtM} (h : BtFine b) (hm : markB b = true) : b.l = [] := by
  have := h.fits
  unfold fitsB at this
  by_cases h1 : b.pid = 0 ∧ (b.kind ≠ 0 ∨ b.epoch ≠ 0 ∨ b.seq ≠ 0)
  · rw [if_pos h1] at this; cases this
  · rw [if_neg h1, if_pos hm] at this
    exact List.eq_nil_of_length_eq_zero (of_decide_eq_true this).2
theorem BtFine.seq0 {b : BtM} (h : BtFine b) (hm : markB b = true ∨ b.pid = 0) : b.seq = 0 := by
  have := h.fits
  unfold fitsB at this
  by_cases h1 : b.pid = 0 ∧ (b.kind ≠ 0 ∨ b.epoch ≠ 0 ∨ b.seq ≠ 0)
  · rw [if_pos h1] at this; cases this
  · rw [if_neg h1] at this
    rcases hm with hm | hm
    · rw [if_pos hm] at this
      exact (of_decide_eq_true this).1
    · exact Decidable.of_not_not fun hs => h1 ⟨hm, .inr (.inr hs)⟩
theorem BtFine.epoch0 {b : BtM} (h : BtFine b) (hp : b.pid = 0) : b.epoch = 0 := by
  have := h.fits
  unfold fitsB at this
  by_cases h1 : b.pid = 0 ∧ (b.kind ≠ 0 ∨ b.epoch ≠ 0 ∨ b.seq ≠ 0)
  · rw [if_pos h1] at this; cases this
  · exact Decidable.of_not_not fun hs => h1 ⟨hp, .inr (.inl hs)⟩
/-- What a head's numbers are told by, behind the first byte. -/
def encHd (b : BtM) : List UInt8 := [UInt8.ofNat b.kind.toNat] ++ (encN b.base.toNat ++ (encN b.pid.toNat ++ ((if 0 < b.pid then encN b.epoch.toNat ++ (if markB b = true then [] else encN b.seq.toNat) else []) ++ encN b.time.toNat)))
theorem encHead_eq (b : BtM) : encHead b = [1] ++ encHd b := rfl
theorem headR_enc {bs q : List UInt8} {pos : Nat} {b : BtM} (hf : BtFine b) (h : bs.drop pos = encHd b ++ q) (hp : pos ≤ bs.length) : headR ⟨bs, pos, 0⟩ = ({ b with l := [] }, ⟨bs, pos + (encHd b).length, 0⟩) := by
  obtain ⟨hk, hb, hpi, he, hs, ht⟩ := hf.nums
  have hs0 := hf.seq0
  have he0 := hf.epoch0
  clear hf
  have hmk : (b.kind == 2 || b.kind == 3) = markB b := rfl
  generalize hmv : markB b = mk at *
  unfold encHd at h ⊢
  rw [hmv] at h ⊢
  obtain ⟨base, pid, epoch, seq, kind, time, l⟩ := b
  simp only at *
  obtain ⟨base, rfl⟩ := Int.eq_ofNat_of_zero_le hb.1
  obtain ⟨pid, rfl⟩ := Int.eq_ofNat_of_zero_le hpi.1
  obtain ⟨epoch, rfl⟩ := Int.eq_ofNat_of_zero_le he.1
  obtain ⟨seq, rfl⟩ := Int.eq_ofNat_of_zero_le hs.1
  obtain ⟨kind, rfl⟩ := Int.eq_ofNat_of_zero_le hk.1
  obtain ⟨time, rfl⟩ := Int.eq_ofNat_of_zero_le ht.1
  simp only [Int.toNat_natCast, List.append_assoc] at h ⊢
  have e1 := ByteR_enc h hp
  rw [show (UInt8.ofNat kind).toNat = kind from u8_ofNat (by omega)] at e1
  have p1 := drop_len h hp
  have h := drop_more h
  rw [List.length_singleton] at h p1
  have e2 := uptoR_enc (most := 1099511627776) h (by omega) (by omega)
  have p2 := drop_len h p1
  have h := drop_more h
  have e3 := uptoR_enc (most := 1048576) h (by omega) (by omega)
  have p3 := drop_len h p2
  have h := drop_more h
  unfold headR
  simp only [e1, e2, e3, hmk]
  by_cases hp0 : 0 < (pid : Int)
  · rw [if_pos hp0] at h ⊢
    simp only [List.append_assoc] at h
    have e4 := uptoR_enc (most := 32767) h (by omega) (by omega)
    have p4 := drop_len h p3
    have h := drop_more h
    rw [e4]
    simp only [hp0, true_and, if_true]
    cases mk with
    | true =>
      simp only [Bool.true_eq_false, if_false, if_true, List.nil_append, List.append_nil] at h ⊢
      have e5 := uptoR_enc (most := 1099511627776) h (by omega) (by omega)
      rw [e5, hs0 (.inl rfl)]
      simp only [List.length_append, List.length_singleton]
      congr 2
      omega
    | false =>
      simp only [Bool.false_eq_true, if_false, if_true] at h ⊢
      have e5 := uptoR_enc (most := 2147483647) h (by omega) (by omega)
      have p5 := drop_len h p4
      have h := drop_more h
      have e6 := uptoR_enc (most := 1099511627776) h (by omega) (by omega)
      rw [e5]
      simp only
      rw [e6]
      simp only [List.length_append, List.length_singleton]
      congr 2
      omega
  · rw [if_neg hp0] at h ⊢
    simp only [hp0, false_and, if_false, List.nil_append] at h ⊢
    have e5 := uptoR_enc (most := 1099511627776) h (by omega) (by omega)
    rw [e5, hs0 (.inr (by omega)), he0 (by omega)]
    simp only [List.length_append, List.length_singleton]
    congr 2
    omega
theorem bodyR_enc {q : List UInt8} {b : BtM} (hv : validE b = 0) : bodyR ⟨encB b ++ q, 0, 0⟩ = some (b, ⟨encB b ++ q, (encB b).length, 0⟩) := by
  have hf := (validE_iff b).1 hv
  have hn := hf.nums
  have hl := hf.len
  generalize hbs : encB b ++ q = bs
  have h : bs.drop 0 = [1] ++ (encHd b ++ ((if markB b = true then [] else encN b.l.length ++ encRs b.time ⟨#[]⟩ b.l) ++ q)) := by
    rw [List.drop_zero, ← hbs]
    unfold encB
    rw [encHead_eq]
    simp only [List.append_assoc]
  have e1 := ByteR_enc h (Nat.zero_le _)
  have p1 := drop_len h (Nat.zero_le _)
  have h := drop_more h
  rw [List.length_singleton] at h p1
  have e2 := headR_enc hf h p1
  have p2 := drop_len h p1
  have h := drop_more h
  have htm := hn.time
  unfold bodyR
  simp only [e1]
  rw [if_neg (by decide)]
  simp only [e2]
  rw [if_neg (by rintro (h | h) <;> omega)]
  have hmk : markB ({ b with l := [] } : BtM) = markB b := rfl
  rw [hmk]
  by_cases hm : markB b = true
  · rw [if_pos hm]
    have hl0 := hf.mark hm
    obtain ⟨base, pid, epoch, seq, kind, time, l⟩ := b
    simp only at hl0 ⊢
    subst hl0
    congr 3
    unfold encB
    rw [if_pos hm, encHead_eq]
    simp only [List.length_append, List.length_singleton, List.length_nil]
    omega
  · rw [if_neg hm] at h ⊢
    rw [List.append_assoc] at h
    have e3 := uptoR_enc (most := 64) h (by omega) (by omega)
    have p3 := drop_len h p2
    have h := drop_more h
    have e4 := readsR_enc hn.time b.l _ ⟨#[]⟩ q h p3 (Nat.zero_le _) hf.recs
    rw [e3, if_neg (by simp only; omega)]
    simp only [Int.toNat_natCast]
    rw [e4]
    simp only
    congr 3
    unfold encB
    rw [if_neg hm, encHead_eq]
    simp only [List.length_append, List.length_singleton]
    omega
/-- What was told is read. -/
theorem decB_enc {b : BtM} (hv : validE b = 0) : decB (encB b) = some b := by
  have := bodyR_enc (q := []) hv
  rw [List.append_nil] at this
  unfold decB
  rw [this]
  simp only
  rw [if_pos ⟨by unfold EndR; rw [if_neg (by unfold leftR; simp)], hv⟩]
end Go.Proofs.Ytaomhedjamnloaa
