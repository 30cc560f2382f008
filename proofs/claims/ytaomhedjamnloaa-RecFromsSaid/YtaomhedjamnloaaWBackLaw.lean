/- WireBack: the plain law: what was told is read again. -/
import Derived.Test.YtaomhedjamnloaaWTold
import Derived.Test.YtaomhedjamnloaaWire4
set_option linter.unusedVariables false
set_option linter.unusedSimpArgs false
namespace Go.Proofs.Ytaomhedjamnloaa
open Go Go.RowKit

theorem getU_of_enc {l r : List UInt8} {n : Nat} (h : l = encN n ++ r) (hn : n < 18446744073709551616) : getU 0 0 l = some (n, (encN n).length) := by
  have := getU_enc n 0 0 r (by omega) (.inl rfl) (by decide)
  rw [h, this]
  simp
theorem uintR_enc {bs r : List UInt8} {pos n : Nat} (h : bs.drop pos = encN n ++ r) (hn : n < 18446744073709551616) : uintR ⟨bs, pos, 0⟩ = (n, ⟨bs, pos + (encN n).length, 0⟩) :=
  uintR_some (x := ⟨bs, pos, 0⟩) (getU_of_enc h hn)
theorem UintR_enc {bs r : List UInt8} {pos n : Nat} (h : bs.drop pos = encN n ++ r) (hn : n < 18446744073709551616) : UintR ⟨bs, pos, 0⟩ = (n, ⟨bs, pos + (encN n).length, 0⟩) := by
  unfold UintR
  rw [if_pos rfl]
  exact uintR_enc h hn
theorem IntR_enc {bs r : List UInt8} {pos : Nat} {i : Int} (h : bs.drop pos = encN (zig i) ++ r) (hi : -9223372036854775808 ≤ i ∧ i ≤ 9223372036854775807) : IntR ⟨bs, pos, 0⟩ = (i, ⟨bs, pos + (encN (zig i)).length, 0⟩) := by
  unfold IntR
  rw [UintR_enc h (zig_lt hi), zag_zig]
theorem drop_more {bs a r : List UInt8} {pos : Nat} (h : bs.drop pos = a ++ r) : bs.drop (pos + a.length) = r := by
  rw [← List.drop_drop, h, List.drop_left]
theorem drop_len {bs a r : List UInt8} {pos : Nat} (h : bs.drop pos = a ++ r) (hp : pos ≤ bs.length) : pos + a.length ≤ bs.length := by
  have := congrArg List.length h
  rw [List.length_drop, List.length_append] at this
  omega
theorem TextR_enc {bs r : List UInt8} {pos : Nat} {s : ByteArray} {most : Int} (h : bs.drop pos = encT s ++ r) (hp : pos ≤ bs.length) (hm : (s.size : Int) ≤ most) (hs : s.size < 18446744073709551616) : TextR ⟨bs, pos, 0⟩ most = (s, ⟨bs, pos + (encT s).length, 0⟩) := by
  unfold encT at h
  rw [List.append_assoc] at h
  have h1 := uintR_enc h hs
  have h2 := drop_more h
  have h3 := drop_len h hp
  have h4 := drop_len h2 h3
  have hl : s.data.toList.length = s.size := Array.length_toList
  unfold TextR
  rw [h1, if_pos rfl, if_pos rfl, if_neg (by omega), if_neg (by unfold leftR; simp only; omega)]
  refine Prod.ext ?_ ?_
  · simp only
    rw [h2, ← hl, List.take_left]
  · simp only
    unfold encT
    rw [List.length_append, hl, Nat.add_assoc]
theorem FlagR_enc {bs r : List UInt8} {pos : Nat} {b : Bool} (h : bs.drop pos = [if b then 1 else 0] ++ r) (hp : pos ≤ bs.length) : FlagR ⟨bs, pos, 0⟩ = (b, ⟨bs, pos + 1, 0⟩) := by
  have h3 := drop_len h hp
  have hg : bs.getD pos 0 = if b then 1 else 0 := by
    have : (bs.drop pos)[0]? = some (if b then 1 else 0) := by rw [h]; rfl
    rw [List.getElem?_drop, Nat.add_zero] at this
    rw [List.getD_eq_getElem?_getD, this]
    rfl
  unfold FlagR
  rw [if_pos rfl]
  simp only [hg]
  rw [if_neg (by
    have : ¬ leftR ⟨bs, pos, 0⟩ = 0 := by
      unfold leftR
      simp only [List.length_singleton] at h3 ⊢
      omega
    cases b
    · simp [this]
    · simp [this])]
  cases b <;> rfl
theorem manyR_enc {α : Type} (f : RdM → α × RdM) (enc : α → List UInt8) (bs : List UInt8) : ∀ (l : List α) (pos : Nat) (r : List UInt8), pos ≤ bs.length → bs.drop pos = (l.map enc).flatten ++ r →
    (∀ a ∈ l, ∀ pos r, pos ≤ bs.length → bs.drop pos = enc a ++ r → f ⟨bs, pos, 0⟩ = (a, ⟨bs, pos + (enc a).length, 0⟩)) → manyR f l.length ⟨bs, pos, 0⟩ = (l, ⟨bs, pos + (l.map enc).flatten.length, 0⟩)
  | [], pos, r, hp, h, hf => rfl
  | a :: l, pos, r, hp, h, hf => by
    rw [List.map_cons, List.flatten_cons, List.append_assoc] at h
    have h1 := hf a (List.mem_cons_self ..) pos _ hp h
    have h2 := manyR_enc f enc bs l _ r (drop_len h hp) (drop_more h) fun b hb => hf b (List.mem_cons_of_mem _ hb)
    rw [List.length_cons, manyR, if_pos rfl, h1]
    simp only
    rw [h2]
    simp only [List.map_cons, List.flatten_cons, List.length_append]
    rw [Nat.add_assoc]
theorem listR_enc {α : Type} (f : RdM → α × RdM) (enc : α → List UInt8) {bs r : List UInt8} {l : List α} {pos : Nat} {count : Int} (hp : pos ≤ bs.length) (h : bs.drop pos = encN l.length ++ (l.map enc).flatten ++ r) (hc : (l.length : Int) ≤ count) (hl : l.length < 18446744073709551616)
    (hf : ∀ a ∈ l, ∀ pos r, pos ≤ bs.length → bs.drop pos = enc a ++ r → f ⟨bs, pos, 0⟩ = (a, ⟨bs, pos + (enc a).length, 0⟩)) : listR f ⟨bs, pos, 0⟩ count = (l, ⟨bs, pos + (encN l.length ++ (l.map enc).flatten).length, 0⟩) := by
  rw [List.append_assoc] at h
  have h1 := uintR_enc h hl
  have h2 := manyR_enc f enc bs l _ r (drop_len h hp) (drop_more h) hf
  have hcr : countR ⟨bs, pos, 0⟩ count = ⟨bs, pos + (encN l.length).length, 0⟩ := by
    unfold countR
    rw [h1, if_neg (by simp only; omega)]
  unfold listR
  rw [if_pos rfl, hcr, h1]
  simp only
  rw [h2, if_pos rfl, List.length_append, Nat.add_assoc]
theorem TextsR_enc {bs r : List UInt8} {l : List ByteArray} {pos : Nat} {count : Int} (hp : pos ≤ bs.length) (h : bs.drop pos = encTs l ++ r) (hc : (l.length : Int) ≤ count) (hl : l.length < 18446744073709551616) (hs : ∀ s ∈ l, s.size ≤ 60) : TextsR ⟨bs, pos, 0⟩ count 60 = (l, ⟨bs, pos + (encTs l).length, 0⟩) :=
  listR_enc _ encT hp h hc hl fun a ha pos r hp h => TextR_enc h hp (by have := hs a ha; omega) (by have := hs a ha; omega)
theorem IntsR_enc {bs r : List UInt8} {l : List Int} {pos : Nat} {count : Int} (hp : pos ≤ bs.length) (h : bs.drop pos = encIs l ++ r) (hc : (l.length : Int) ≤ count) (hl : l.length < 18446744073709551616) (hi : ∀ a ∈ l, -9223372036854775808 ≤ a ∧ a ≤ 9223372036854775807) : IntsR ⟨bs, pos, 0⟩ count = (l, ⟨bs, pos + (encIs l).length, 0⟩) :=
  listR_enc IntR (fun i => encN (zig i)) hp h hc hl fun a ha pos r hp h => IntR_enc h (hi a ha)
end Go.Proofs.Ytaomhedjamnloaa
