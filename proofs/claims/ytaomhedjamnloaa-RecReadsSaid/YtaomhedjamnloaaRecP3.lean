/- Batches, plain: the document's reading, and that it tells the same. -/
import Derived.Test.YtaomhedjamnloaaRecP2
set_option linter.unusedVariables false
set_option linter.unusedSimpArgs false
namespace Go.Proofs.Ytaomhedjamnloaa
open Go Go.RowKit

def smallR (x : RdM) : Int × RdM := (if 2199023255552 < (UintR x).1 then -1 else ((UintR x).1 : Int), (UintR x).2)
def keyJ (a s : ByteArray) (n : Nat) : ByteArray := ⟨(a.data.toList.take n ++ s.data.toList).toArray⟩
/-- The records, as the document reads them. -/
def recsR (t : Int) : Nat → RdM → ByteArray → List Rc → List Rc
  | 0, _, _, acc => acc
  | k + 1, y, key, acc =>
    if y.err ≠ 0 then acc
    else if 2199023255552 < (IntR y).1 ∨ (IntR y).1 < -2199023255552 then []
    else if (smallR (FlagR (IntR y).2).2).1 < 0 ∨ (key.size : Int) < (smallR (FlagR (IntR y).2).2).1 then []
    else if (FlagR (IntR y).2).1 = true then
      recsR t k (TextR (smallR (FlagR (IntR y).2).2).2 2000).2 (keyJ key (TextR (smallR (FlagR (IntR y).2).2).2 2000).1 (smallR (FlagR (IntR y).2).2).1.toNat) (acc ++ [(keyJ key (TextR (smallR (FlagR (IntR y).2).2).2 2000).1 (smallR (FlagR (IntR y).2).2).1.toNat, ⟨#[]⟩, true, t + (IntR y).1)])
    else
      recsR t k (TextR (TextR (smallR (FlagR (IntR y).2).2).2 2000).2 2000).2 (keyJ key (TextR (smallR (FlagR (IntR y).2).2).2 2000).1 (smallR (FlagR (IntR y).2).2).1.toNat) (acc ++ [(keyJ key (TextR (smallR (FlagR (IntR y).2).2).2 2000).1 (smallR (FlagR (IntR y).2).2).1.toNat, (TextR (TextR (smallR (FlagR (IntR y).2).2).2 2000).2 2000).1, false, t + (IntR y).1)])
def recordsR (x : RdM) (t : Int) : List Rc := recsR t (min (smallR x).1 65).toNat (smallR x).2 ⟨#[]⟩ []
/-- The head, as the document reads it; behind the first byte. -/
def pheadR (x : RdM) : BtM × RdM :=
  let k := ByteR x
  let a := smallR k.2
  let p := smallR a.2
  let mk := k.1 == 2 || k.1 == 3
  let e := if 0 < p.1 then smallR p.2 else (0, p.2)
  let s := if 0 < p.1 ∧ mk = false then smallR e.2 else (0, e.2)
  let t := smallR s.2
  (⟨a.1, p.1, e.1, s.1, k.1, t.1, []⟩, t.2)
def parseR (bs : List UInt8) : BtM :=
  let h := pheadR (ByteR ⟨bs, 0, 0⟩).2
  if h.2.err = 0 ∧ 0 ≤ h.1.time ∧ markB h.1 = false then { h.1 with l := recordsR h.2 h.1.time } else h.1
def rdecB (bs : List UInt8) : Option BtM := if validE (parseR bs) = 0 ∧ encB (parseR bs) = bs then some (parseR bs) else none
theorem smallR_enc {bs r : List UInt8} {pos n : Nat} (h : bs.drop pos = encN n ++ r) (hm : n ≤ 2199023255552) : smallR ⟨bs, pos, 0⟩ = ((n : Int), ⟨bs, pos + (encN n).length, 0⟩) := by
  unfold smallR
  rw [UintR_enc h (by omega), if_neg (by simp only; omega)]
theorem keyJ_back (a b : ByteArray) : keyJ a (cutK b (keyN a b)) (keyN a b) = b := key_back a b
theorem recsR_enc {bs : List UInt8} {t : Int} (ht : 0 ≤ t ∧ t ≤ 1099511627776) : ∀ (l : List Rc) (pos : Nat) (a : ByteArray) (q : List UInt8) (acc : List Rc), bs.drop pos = encRs t a l ++ q → pos ≤ bs.length → a.size ≤ 1024 → recsE l = 0 →
    recsR t l.length ⟨bs, pos, 0⟩ a acc = acc ++ l
  | [], pos, a, q, acc, h, hp, ha, hr => by simp [recsR]
  | r :: l, pos, a, q, acc, h, hp, ha, hr => by
    have hr0 := recsE_ok hr r (List.mem_cons_self ..)
    have hrl : recsE l = 0 := by
      unfold recsE at hr
      rw [if_pos hr0] at hr
      exact hr
    obtain ⟨h1, h2, h3, h4, h5⟩ := recE_ok hr0
    have hk := keyN_le a r.1
    have hcs := cutK_size r.1 (keyN a r.1)
    rw [encRs] at h
    unfold encR at h
    simp only [List.append_assoc] at h
    have e1 := IntR_enc h (by omega)
    have p1 := drop_len h hp
    have h := drop_more h
    have e2 := FlagR_enc h p1
    have p2 := drop_len h p1
    have h := drop_more h
    rw [show ([if r.2.2.1 = true then 1 else 0] : List UInt8).length = 1 from rfl] at h p2
    have e3 := smallR_enc h (by omega)
    have p3 := drop_len h p2
    have h := drop_more h
    have e4 := TextR_enc (most := 2000) h p3 (by omega) (by omega)
    have p4 := drop_len h p3
    have h := drop_more h
    have hkb := keyJ_back a r.1
    rw [List.length_cons, recsR, if_neg (by simp)]
    simp only [e1, e2, e3, e4]
    rw [if_neg (by omega), if_neg (by omega)]
    simp only [Int.toNat_natCast, hkb]
    obtain ⟨k, v, g, tm⟩ := r
    simp only at *
    rw [show t + (tm - t) = tm by omega]
    cases g with
    | true =>
      simp only [if_true, List.nil_append] at h ⊢
      rw [recsR_enc ht l _ k q _ h p4 h1 hrl, h5 rfl, List.append_assoc]
      rfl
    | false =>
      simp only [Bool.false_eq_true, if_false, List.append_assoc] at h ⊢
      have e5 := TextR_enc (most := 2000) h p4 (by omega) (by omega)
      have p5 := drop_len h p4
      have h := drop_more h
      rw [e5]
      simp only
      rw [recsR_enc ht l _ k q _ h p5 h1 hrl, List.append_assoc]
      rfl
theorem pheadR_enc {bs q : List UInt8} {pos : Nat} {b : BtM} (hf : BtFine b) (h : bs.drop pos = encHd b ++ q) (hp : pos ≤ bs.length) : pheadR ⟨bs, pos, 0⟩ = ({ b with l := [] }, ⟨bs, pos + (encHd b).length, 0⟩) := by
  obtain ⟨hk, hb, hpi, he, hs, ht⟩ := hf.nums
  have hs0 := hf.seq0
  have he0 := hf.epoch0
  clear hf
  have hmk : (b.kind == 2 || b.kind == 3) = markB b := rfl
  generalize hmv : markB b = mk at *
  unfold encHd at h ⊢
  rw [hmv] at h ⊢
  obtain ⟨base, pid, epoch, seq, kind, time, l⟩ := b
  simp only at *
  obtain ⟨base, rfl⟩ := Int.eq_ofNat_of_zero_le hb.1
  obtain ⟨pid, rfl⟩ := Int.eq_ofNat_of_zero_le hpi.1
  obtain ⟨epoch, rfl⟩ := Int.eq_ofNat_of_zero_le he.1
  obtain ⟨seq, rfl⟩ := Int.eq_ofNat_of_zero_le hs.1
  obtain ⟨kind, rfl⟩ := Int.eq_ofNat_of_zero_le hk.1
  obtain ⟨time, rfl⟩ := Int.eq_ofNat_of_zero_le ht.1
  simp only [Int.toNat_natCast, List.append_assoc] at h ⊢
  have e1 := ByteR_enc h hp
  rw [show (UInt8.ofNat kind).toNat = kind from u8_ofNat (by omega)] at e1
  have p1 := drop_len h hp
  have h := drop_more h
  rw [List.length_singleton] at h p1
  have e2 := smallR_enc h (by omega)
  have p2 := drop_len h p1
  have h := drop_more h
  have e3 := smallR_enc h (by omega)
  have p3 := drop_len h p2
  have h := drop_more h
  unfold pheadR
  simp only [e1, e2, e3, hmk]
  by_cases hp0 : 0 < (pid : Int)
  · rw [if_pos hp0] at h ⊢
    simp only [List.append_assoc] at h
    have e4 := smallR_enc h (by omega)
    have p4 := drop_len h p3
    have h := drop_more h
    rw [e4]
    simp only [hp0, true_and, if_true]
    cases mk with
    | true =>
      simp only [Bool.true_eq_false, if_false, if_true, List.nil_append, List.append_nil] at h ⊢
      have e5 := smallR_enc h (by omega)
      rw [e5, hs0 (.inl rfl)]
      simp only [List.length_append, List.length_singleton]
      congr 2
      omega
    | false =>
      simp only [Bool.false_eq_true, if_false, if_true] at h ⊢
      have e5 := smallR_enc h (by omega)
      have p5 := drop_len h p4
      have h := drop_more h
      have e6 := smallR_enc h (by omega)
      rw [e5]
      simp only
      rw [e6]
      simp only [List.length_append, List.length_singleton]
      congr 2
      omega
  · rw [if_neg hp0] at h ⊢
    simp only [hp0, false_and, if_false, List.nil_append] at h ⊢
    have e5 := smallR_enc h (by omega)
    rw [e5, hs0 (.inr (by omega)), he0 (by omega)]
    simp only [List.length_append, List.length_singleton]
    congr 2
    omega
/-- What was told is read by the document. -/
theorem parseR_enc {b : BtM} (hv : validE b = 0) : parseR (encB b) = b := by
  have hf := (validE_iff b).1 hv
  have hn := hf.nums
  have hl := hf.len
  generalize hbs : encB b = bs
  have h : bs.drop 0 = [1] ++ (encHd b ++ ((if markB b = true then [] else encN b.l.length ++ encRs b.time ⟨#[]⟩ b.l))) := by
    rw [List.drop_zero, ← hbs]
    unfold encB
    rw [encHead_eq]
    simp only [List.append_assoc]
  have e1 := ByteR_enc h (Nat.zero_le _)
  have p1 := drop_len h (Nat.zero_le _)
  have h := drop_more h
  rw [List.length_singleton] at h p1
  have e2 := pheadR_enc hf h p1
  have p2 := drop_len h p1
  have h := drop_more h
  have htm := hn.time
  unfold parseR
  simp only [e1, e2]
  have hmk : markB ({ b with l := [] } : BtM) = markB b := rfl
  rw [hmk]
  by_cases hm : markB b = true
  · rw [if_neg (by rintro ⟨_, _, h⟩; rw [hm] at h; cases h)]
    have hl0 := hf.mark hm
    obtain ⟨base, pid, epoch, seq, kind, time, l⟩ := b
    simp only at hl0 ⊢
    rw [hl0]
  · have hm2 : markB b = false := by cases hq : markB b; rfl; exact absurd hq hm
    rw [if_pos ⟨by trivial, htm.1, hm2⟩]
    rw [if_neg hm] at h
    have e3 := smallR_enc h (by omega)
    have p3 := drop_len h p2
    have h := drop_more h
    have e4 := recsR_enc hn.time b.l _ ⟨#[]⟩ [] [] (by rw [List.append_nil]; exact h) p3 (Nat.zero_le _) hf.recs
    unfold recordsR
    rw [e3]
    simp only
    rw [show (min (b.l.length : Int) 65).toNat = b.l.length by omega, e4]
    rfl
theorem rdecB_eq (bs : List UInt8) : rdecB bs = decB bs := by
  unfold rdecB
  by_cases h : validE (parseR bs) = 0 ∧ encB (parseR bs) = bs
  · rw [if_pos h]
    have := decB_enc h.1
    rw [h.2] at this
    exact this.symm
  · rw [if_neg h]
    cases hd : decB bs with
    | none => rfl
    | some b =>
      obtain ⟨h1, h2⟩ := decB_some hd
      exfalso
      apply h
      rw [h1, parseR_enc h2]
      exact ⟨h2, rfl⟩
end Go.Proofs.Ytaomhedjamnloaa
