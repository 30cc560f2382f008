/- Contract: awake of towpathlaw01. -/
import Derived.Test.YtjmeoaookpnknaaWire1
import Derived.Test.YtjmeoaookpnknaaWire3
set_option linter.unusedVariables false
set_option linter.unusedSimpArgs false
namespace Go.Proofs.Ytjmeoaookpnknaa
open Go Go.RowKit

def aw0 : List UInt8 := [172, 2, 3, 2, 97, 98, 1]
theorem aw1 : UintR ⟨aw0, 0, 0⟩ = (300, ⟨aw0, 2, 0⟩) := rfl
theorem aw2 : IntR ⟨aw0, 2, 0⟩ = (-2, ⟨aw0, 3, 0⟩) := rfl
theorem aw3 : TextR ⟨aw0, 3, 0⟩ 9 = (⟨#[97, 98]⟩, ⟨aw0, 6, 0⟩) := rfl
theorem aw4 : FlagR ⟨aw0, 6, 0⟩ = (true, ⟨aw0, 7, 0⟩) := rfl
theorem aw5 : EndR ⟨aw0, 7, 0⟩ = ⟨aw0, 7, 0⟩ := rfl
theorem enc300 : encN 300 = [172, 2] := by rw [encN_big (by decide), encN_small (by decide)]; rfl
theorem enc2 : encN (zig (-2)) = [3] := by rw [show zig (-2) = 3 from rfl, encN_small (by decide)]; rfl
theorem encts : encTs [⟨#[]⟩, ⟨#[98]⟩] = [2, 0, 1, 98] := by
  unfold encTs
  rw [show ([⟨#[]⟩, ⟨#[98]⟩] : List ByteArray).length = 2 from rfl, encN_small (by decide)]
  simp only [List.map_cons, List.map_nil, encT]
  rw [show (ByteArray.mk #[]).size = 0 from rfl, show (ByteArray.mk #[98]).size = 1 from rfl, encN_small (by decide), encN_small (by decide)]
  rfl
set_option maxRecDepth 100000 in
set_option maxHeartbeats 8000000 in
theorem awake_calls (w : World) :
    Calls Try.prog 11 #[] w fun e w' => e = .returned (.bool true) ∧ Below w.heap.size w w' := by
  have hlit := Own.lit (d := kb) (e := 5) w (Nat.le_refl _) (F := fun _ => False) [.int .u8 172, .int .u8 2, .int .u8 3, .int .u8 2, .int .u8 97, .int .u8 98, .int .u8 1] aw0 7 rfl (by decide) (u8s_reps aw0 _ _)
  obtain ⟨A0, c0, e0, _, _, hr0⟩ := hlit.sl
  injection e0 with e1 e2 e3
  subst e1
  subst e3
  clear e2
  have Hn := Lib.hid (NewReader_calls _ 7 aw0 _ _ (by decide) (by decide) (by decide) hr0)
  clear hr0 hlit
  go_enter Try.func11, Try.ntmps11
  go_wp2_with fail
  refine Hn.out.mono ?_
  rintro e w1 ⟨g, A, c, rfl, h1, hE1⟩
  have Hu := Lib.hid (rdUint_calls _ _ _ _ _ _ h1)
  rw [aw1] at Hu
  go_wp2_with fail
  refine Hu.out.mono ?_
  rintro e w2 ⟨rfl, h2, hm2⟩
  have Hi := Lib.hid (rdInt_calls _ _ _ _ _ _ h2)
  rw [aw2] at Hi
  go_wp2_with fail
  refine Hi.out.mono ?_
  rintro e w3 ⟨rfl, h3, hm3⟩
  have Ht := Lib.hid (rdText_calls _ _ _ _ _ _ h3 9 (by decide))
  rw [aw3] at Ht
  go_wp2_with fail
  refine Ht.out.mono ?_
  rintro e w4 ⟨rfl, h4, hm4⟩
  have Hf := Lib.hid (rdFlag_calls _ _ _ _ _ _ h4)
  rw [aw4] at Hf
  go_wp2_with fail
  refine Hf.out.mono ?_
  rintro e w5 ⟨rfl, h5, hm5⟩
  have He := Lib.hid (rdEnd_calls _ _ _ _ _ _ h5)
  rw [aw5] at He
  go_wp2_with fail
  refine He.out.mono ?_
  rintro e w6 ⟨rfl, h6, hm6⟩
  have hM := (((hm2.trans hm3).trans hm4).trans hm5).trans hm6
  have hE6 : Below w.heap.size w w6 := by
    have ha := (Below.refl w.heap.size w).alloc (Nat.le_refl _) (.cells #[.int .u8 172, .int .u8 2, .int .u8 3, .int .u8 2, .int .u8 97, .int .u8 98, .int .u8 1] 5)
    have hb := Below.trans ha (Below.mono hE1 (by simp))
    exact Below.trans hb (hM.below (Nat.le_trans (by simp) h1.base) hb.size)
  have hlit := Own.lit (d := str) (e := 9) w6 (Nat.le_refl _) (F := fun _ => False) [.string ⟨#[]⟩, .string ⟨#[98]⟩] [⟨#[]⟩, ⟨#[98]⟩] 2 rfl (by decide) ⟨[_], [_], rfl, rfl, ⟨rfl, Nat.zero_le _⟩, [_], [], rfl, rfl, ⟨rfl, by decide⟩, rfl⟩
  obtain ⟨A7, c7, e7, _, _, hr7⟩ := hlit.sl
  injection e7 with e1 e2 e3
  subst e1
  subst e3
  clear e2
  have hr7 := hr7.mono (G := fun k => k < w6.heap.size + 1) fun k hk => by
    have hk2 := (show some w6.heap.size = some k from hk.resolve_left id)
    injection hk2 with hk2
    omega
  have hE7 := hE6.alloc hE6.size (.cells #[.string ⟨#[]⟩, .string ⟨#[98]⟩] 9)
  have Hts := Lib.hid (Texts_calls _ 2 [⟨#[]⟩, ⟨#[98]⟩] _ _ (by decide) (by simp only [List.map_cons, List.map_nil, encT]; rw [show (ByteArray.mk #[]).size = 0 from rfl, show (ByteArray.mk #[98]).size = 1 from rfl, encN_small (by decide), encN_small (by decide)]; decide) (by simp) hr7)
  rw [encts] at Hts
  clear hr7 hlit hM hm2 hm3 hm4 hm5 hm6 h2 h3 h4 h5 h6 hE1 h1
  go_wp2_with fail
  refine Hts.out.mono ?_
  rintro e w8 ⟨v8, rfl, ho8, hE8⟩
  obtain ⟨A8, c8, e8, _, _, hr8⟩ := ho8.sl
  subst e8
  have hcv8 := conv_str (hr8) 23 9 5 c8 Try.underlying23 Try.underlying5 Try.underlying9
  rw [show ([2, 0, 1, 98] : List UInt8).length = 4 from rfl] at hcv8
  have hE8' := Below.trans hE7 (Below.mono hE8 hE7.size)
  have Hu2 := Lib.hid (Uint_calls 300 (by decide) w8)
  rw [enc300] at Hu2
  clear hr8 ho8
  go_wp2_with fail
  refine Hu2.out.mono ?_
  rintro e w9 ⟨v9, rfl, ho9, hE9⟩
  have Hi2 := Lib.hid (Int_calls (-2) (by decide) w9)
  rw [enc2] at Hi2
  have hE9' := Below.trans hE8' (Below.mono hE9 hE8'.size)
  go_wp2_with fail
  refine Hi2.out.mono ?_
  rintro e w10 ⟨v10, rfl, ho10, hE10⟩
  have hE10' := Below.trans hE9' (Below.mono hE10 hE9'.size)
  have ho9' := ho9.below hE10
  obtain ⟨A9, c9, e9, k1, k2, hr9⟩ := ho9'.sl
  have hat9 := fun j (h : v9.ownBlock = some j) => (ho9'.at h).2
  subst e9
  obtain ⟨A10, c10, e10, k3, k4, hr10⟩ := ho10.sl
  have hat10 := fun j (h : v10.ownBlock = some j) => (ho10.at h).2
  subst e10
  have hlit := Own.lit (d := slk kb) (e := 23) w10 (Nat.le_refl _) (F := fun k => k < w10.heap.size) [.slice A9 2 c9, .slice A10 1 c10] [[172, 2], [3]] 2 rfl (by decide)
    ⟨[_], [_], rfl, rfl, ⟨_, rfl, A9, c9, rfl, k1, k2, (hr9.alloc _).mono fun k hk => hat9 k (hk.resolve_left id)⟩, [_], [], rfl, rfl, ⟨_, rfl, A10, c10, rfl, k3, k4, (hr10.alloc _).mono fun k hk => hat10 k (hk.resolve_left id)⟩, rfl⟩
  obtain ⟨A11, c11, e11, _, _, hr11⟩ := hlit.sl
  injection e11 with e1 e2 e3
  subst e1
  subst e3
  clear e2
  have hr11 := hr11.mono (G := fun k => k < w10.heap.size + 1) fun k hk => by
    rcases hk with hk | hk
    · exact Nat.lt_succ_of_lt hk
    · have hk2 := (show some w10.heap.size = some k from hk)
      injection hk2 with hk2
      omega
  have Hj := Lib.hid (Join_calls _ 2 [[172, 2], [3]] _ _ (by decide) (by decide) (by simp) hr11)
  have hE11' := hE10'.alloc hE10'.size (.cells #[.slice A9 2 c9, .slice A10 1 c10] 23)
  clear hr11 hlit hr9 hr10 hat9 hat10 ho9 ho10 ho9'
  go_wp2_with fail
  refine Hj.out.mono ?_
  rintro e w12 ⟨v12, rfl, ho12, hE12⟩
  obtain ⟨A12, c12, e12, _, _, hr12⟩ := ho12.sl
  subst e12
  have hcv12 := conv_str (hr12) 23 9 5 c12 Try.underlying23 Try.underlying5 Try.underlying9
  rw [show ([[172, 2], [3]] : List (List UInt8)).flatten.length = 3 from rfl, show ([[172, 2], [3]] : List (List UInt8)).flatten = [172, 2, 3] from rfl] at hcv12
  have hE12' := Below.trans hE11' (Below.mono hE12 hE11'.size)
  clear hr12 ho12
  go_wp2
  go_ret
  exact ⟨rfl, hE12'⟩
end Go.Proofs.Ytjmeoaookpnknaa
