/- Contracts of wire's writers: Uint, Int, Text, Flag, Join, Texts, Ints. -/
import Derived.Test.YtaomhedjamnloaaProg
import Derived.Test.YtaomhedjamnloaaBase2
import Derived.Test.YtaomhedjamnloaaBase3
import Derived.Test.YtaomhedjamnloaaBytes1
import Derived.Test.YtaomhedjamnloaaWire0
import Derived.Outline
import Derived.WideLaws
import Derived.Deep.DeepMust
set_option linter.unusedVariables false
set_option linter.unusedSimpArgs false
namespace Go.Proofs.Ytaomhedjamnloaa
open Go Go.RowKit

/-- A telling: a row of the call's own. -/
def ToldPost (w : World) (l : List UInt8) (e : Ending) (w' : World) : Prop := ∃ v, e = .returned v ∧ Own kb 5 w' w.heap.size (fun _ => False) v l ∧ Below w.heap.size w w'
theorem u64_shr7 (n : Nat) : (n : Int) / 128 = ((n / 128 : Nat) : Int) := by omega
theorem or128 (n : Nat) : bits .or .u8 ((n : Int) % 256) 128 = (((n % 128 + 128 : Nat)) : Int) := by
  have h1 : ((n : Int) % 256) = ((n % 256 : Nat) : Int) := by omega
  have h2 := (bits_nat .u8 8 (by decide) wraps_u8 (n % 256) 128 (by omega) (by omega)).2
  rw [h1]
  refine h2.trans ?_
  congr 1
  have : n % 256 = n % 128 ∨ n % 256 = n % 128 + 128 := by omega
  have key : ∀ r, r < 256 → (r ||| 128) = r % 128 + 128 := by decide +kernel
  rw [key (n % 256) (by omega)]
  omega
set_option maxRecDepth 8000 in
set_option maxHeartbeats 4000000 in
theorem Uint_calls (n : Nat) (hn : n < 18446744073709551616) (w : World) :
    Calls Try.prog 67 #[.int .u64 n] w (ToldPost w (encN n)) := by
  go_enter Try.func67, Try.ntmps67
  go_wp2
  go_loopw [0, 3] (fun i v w' => ∃ (m : Nat) (pre : List UInt8), i = .int .u64 m ∧ m < 18446744073709551616 ∧ encN n = pre ++ encN m ∧ Own kb 5 w' w.heap.size (fun _ => False) v pre ∧ Below w.heap.size w w') (fun i _ _ => (intOf i).toNat)
  case atStart => exact ⟨n, [], rfl, hn, rfl, Own.nil _ _ _ _ _, Below.refl _ _⟩
  case round =>
    obtain ⟨m, pre, rfl, hm, he, ho, hE⟩ := hrel
    have hlen := (encN_len n hn).2
    rw [he, List.length_append] at hlen
    have hpre : pre.length ≤ 10 := by omega
    have hsz := hE.size
    obtain ⟨A3, c3, rfl, _, _⟩ := ho.slice
    have He := Lib.hid he
    clear he
    by_cases hbig : 128 ≤ m
    · have hb := Lib.hid (boxed1 (heap_alloc_new wr (.cells #[.int .u8 ((m % 128 + 128 : Nat) : Int)] 5)))
      have hr := or128 m
      go_wp2_with (at_builtin; go_must (refine app_onef kb flat_kb w.heap.size rfl (.tmp 6) (.tmp 10) 31 5 1 rfl Try.underlying31 info_u8 (.slice A3 pre.length c3) pre (UInt8.ofNat (m % 128 + 128)) wr.heap.size [.int .u8 ((m % 128 + 128 : Nat) : Int)] (fun _ => False) rfl rfl (ho.alloc _) hb.out (kb_one _ _ _ (by omega)) (by omega) (by simp only [maxLen]; omega) (by simp; omega) ?_; intro v4 w4 ho4 hg4 ha4))
      have hE4 := (hE.alloc hsz (.cells #[.int .u8 ((m % 128 + 128 : Nat) : Int)] 5)).grown hg4 (by simp; omega) (fun k hk => (ho.at hk).1)
      refine ⟨⟨m / 128, pre ++ [UInt8.ofNat (m % 128 + 128)], by rw [u64_shr7], by omega, by rw [He.out, encN_big hbig, List.append_assoc]; rfl, ho4, hE4⟩, ?_⟩
      have e1 : intOf (Value.int .u64 ((m : Int) / 128)) = (m : Int) / 128 := rfl
      have e2 : intOf (Value.int .u64 (m : Int)) = (m : Int) := rfl
      rw [e1, e2]
      omega
    · have hb := Lib.hid (boxed1 (heap_alloc_new wr (.cells #[.int .u8 ((m : Nat) : Int)] 5)))
      go_wp2_with (at_builtin; go_must (refine app_onef kb flat_kb w.heap.size rfl (.tmp 14) (.tmp 17) 31 5 1 rfl Try.underlying31 info_u8 (.slice A3 pre.length c3) pre (UInt8.ofNat m) wr.heap.size [.int .u8 ((m : Nat) : Int)] (fun _ => False) rfl rfl (ho.alloc _) hb.out (kb_one _ _ _ (by omega)) (by omega) (by simp only [maxLen]; omega) (by simp; omega) ?_; intro v4 w4 ho4 hg4 ha4))
      go_ret
      have hE4 := (hE.alloc hsz (.cells #[.int .u8 ((m : Nat) : Int)] 5)).grown hg4 (by simp; omega) (fun k hk => (ho.at hk).1)
      exact ⟨v4, rfl, by rw [He.out, encN_small (by omega)]; exact ho4, hE4⟩
set_option maxRecDepth 8000 in
set_option maxHeartbeats 4000000 in
theorem Int_calls (i : Int) (hi : -9223372036854775808 ≤ i ∧ i ≤ 9223372036854775807) (w : World) :
    Calls Try.prog 69 #[.int .i64 i] w (ToldPost w (encN (zig i))) := by
  obtain ⟨h1, h2⟩ := hi
  have Hu := Lib.hid (Uint_calls (zig i) (zig_lt ⟨h1, h2⟩) w)
  have Hz := Lib.hid (zig_bits i ⟨h1, h2⟩)
  clear h1 h2
  go_enter Try.func69, Try.ntmps69
  go_wp2_with fail
  rw [Hz.out]
  refine Hu.out.mono ?_
  rintro e w1 ⟨v, rfl, ho, hE⟩
  go_wp2
  go_ret
  exact ⟨v, rfl, ho, hE⟩
theorem ToldPost.of {w w' : World} {v : Value} {l : List UInt8} (ho : Own kb 5 w' w.heap.size (fun _ => False) v l) (hE : Below w.heap.size w w') : ToldPost w l (.returned v) w' := ⟨v, rfl, ho, hE⟩
/-- A text's bytes. -/
def encT (s : ByteArray) : List UInt8 := encN s.size ++ s.data.toList
set_option maxRecDepth 8000 in
set_option maxHeartbeats 4000000 in
theorem Text_calls (s : ByteArray) (hs : s.size ≤ 70368744177664) (w : World) :
    Calls Try.prog 71 #[.string s] w (ToldPost w (encT s)) := by
  have Hu := Lib.hid (Uint_calls s.size (by omega) w)
  have hl := (encN_len s.size (by omega)).2
  go_enter Try.func71, Try.ntmps71
  go_wp2_with fail
  refine Hu.out.mono ?_
  rintro e w1 ⟨v, rfl, ho, hE⟩
  have hsz := hE.size
  have hv := fun k (h : v.ownBlock = some k) => (ho.at h).1
  go_wp2_with (at_builtin; go_must (refine app_str w.heap.size rfl (.tmp 6) (.tmp 7) 31 9 5 rfl Try.underlying31 Try.underlying9 info_u8z v (encN s.size) (fun _ => False) s rfl rfl ho (by omega) (by omega) ?_; intro v4 w4 ho4 hg4))
  go_ret
  exact .of ho4 (hE.grown hg4 hsz hv)
set_option maxRecDepth 8000 in
set_option maxHeartbeats 4000000 in
theorem Flag_calls (b : Bool) (w : World) :
    Calls Try.prog 70 #[.bool b] w (ToldPost w [if b then 1 else 0]) := by
  cases b with
  | true =>
    have Hlit := Lib.hid (Own.lit (d := kb) (e := 5) w (Nat.le_refl _) (F := fun _ => False) [.int .u8 1] [1] 1 rfl (by decide) (Reps.single rfl ⟨rfl, trivial⟩))
    go_enter Try.func70, Try.ntmps70
    go_wp2
    go_ret
    exact .of Hlit.out ((Below.refl _ _).alloc (Nat.le_refl _) _)
  | false =>
    have Hlit := Lib.hid (Own.lit (d := kb) (e := 5) w (Nat.le_refl _) (F := fun _ => False) [.int .u8 0] [0] 1 rfl (by decide) (Reps.single rfl ⟨rfl, trivial⟩))
    go_enter Try.func70, Try.ntmps70
    go_wp2
    go_ret
    exact .of Hlit.out ((Below.refl _ _).alloc (Nat.le_refl _) _)
theorem len_flat_take (ls : List (List UInt8)) (k : Nat) (h : k < ls.length) : (ls.take (k + 1)).flatten.length = (ls.take k).flatten.length + ls[k].length := by
  rw [List.take_succ_eq_append_getElem h, List.flatten_append, List.length_append]
  simp
theorem len_flat_le (ls : List (List UInt8)) (k : Nat) : (ls.take k).flatten.length ≤ ls.flatten.length := by
  have := congrArg (fun l : List (List UInt8) => l.flatten.length) (List.take_append_drop k ls)
  simp only [List.flatten_append, List.length_append] at this
  omega
set_option maxRecDepth 8000 in
set_option maxHeartbeats 4000000 in
theorem Join_calls (A : Option Addr) (c : Nat) (ls : List (List UInt8)) (F : Nat → Prop) (w : World) (hn : ls.length ≤ maxLen) (ht : ls.flatten.length ≤ 70368744177664) (hF : ∀ k, F k → k < w.heap.size) (hr : Row (slk kb) w F A ls) :
    Calls Try.prog 66 #[.slice A ls.length c] w (ToldPost w ls.flatten) := by
  unfold maxLen at hn
  go_enter Try.func66, Try.ntmps66
  go_wp2
  go_loop [3, 11] (fun v i => ∃ k : Nat, k ≤ ls.length ∧ i = .int .i64 k ∧ v = .int .i64 (ls.take k).flatten.length) (fun _ i => ls.length - (intOf i).toNat)
  case atStart => exact ⟨0, Nat.zero_le _, rfl, rfl⟩
  case round =>
    obtain ⟨k, hk, rfl, rfl⟩ := hrel
    by_cases hlt : k < ls.length
    · obtain ⟨ad, B, cb, rfl, hcell, hB, hm, hrow⟩ := hr.sl_at k hlt
      have Hfl := Lib.hid (len_flat_take ls k hlt)
      have hle := len_flat_le ls (k + 1)
      rw [len_flat_take ls k hlt] at hle
      generalize (ls.take k).flatten.length = q at *
      go_wp2
      go_round
      case rel => exact ⟨k + 1, hlt, by go_num, by rw [Hfl.out]; push_cast; rfl⟩
      case measure => simp [intOf]; omega
    · obtain rfl : k = ls.length := by omega
      rw [List.take_length]
      have Hle := Lib.hid (len_flat_le ls)
      generalize ls.flatten.length = tot at *
      go_wp2_with (refine make_own kb rfl 31 5 1 .i64 .i64 _ _ (tot : Int) rfl rfl rfl Try.underlying31 info_u8 (by omega) (by omega) (by simp [maxLen]; omega) ?_; intro v1 w1 ho1 hg1 ha1)
      have hE1 : Below w.heap.size w w1 := (Below.refl _ _).grown hg1 (Nat.le_refl _) (fun k e => by cases e)
      go_loopw [6, 24] (fun v i w' => ∃ k : Nat, k ≤ ls.length ∧ i = .int .i64 k ∧ Own kb 5 w' w.heap.size (fun _ => False) v (ls.take k).flatten ∧ Below w.heap.size w w') (fun _ i _ => ls.length - (intOf i).toNat)
      case atStart => exact ⟨0, Nat.zero_le _, rfl, ho1, hE1⟩
      case round =>
        obtain ⟨k, hk, rfl, ho, hE⟩ := hrel
        obtain ⟨A3, c3, rfl, _, _⟩ := ho.slice
        have hsz := hE.size
        by_cases hlt : k < ls.length
        · obtain ⟨ad, B, cb, rfl, hcell, hB, hm, hrow⟩ := (hr.belowF hF hE).sl_at k hlt
          have Hfl := Lib.hid (show (ls.take (k + 1)).flatten = (ls.take k).flatten ++ ls[k] by rw [List.take_succ_eq_append_getElem hlt, List.flatten_append]; simp)
          have hle := Hle.out (k + 1)
          rw [Hfl.out, List.length_append] at hle
          have hsl : Sl kb wr F (.slice B ls[k].length cb) ls[k] := ⟨B, cb, rfl, hB, hm, hrow⟩
          generalize (ls.take k).flatten = pre at *
          generalize ls[k] = l at *
          go_wp2_with (at_builtin; go_must (refine app_flat kb flat_kb w.heap.size rfl (.tmp 28) (.tmp 29) 31 5 1 rfl Try.underlying31 info_u8 (.slice A3 pre.length c3) (.slice B l.length cb) pre l (fun _ => False) F rfl rfl ho hsl (by omega) (by simp only [maxLen]; omega) (by omega) ?_; intro v4 w4 ho4 hg4 ha4))
          go_roundw
          case rel => exact ⟨k + 1, hlt, by go_num, by rw [Hfl.out]; exact ho4, hE.grown hg4 hsz (fun j hj => (ho.at hj).1)⟩
          case measure => simp [intOf]; omega
        · obtain rfl : k = ls.length := by omega
          go_wp2
          go_ret
          rw [List.take_length] at ho ⊢
          exact .of ho hE
theorem Row.str_at {w : World} {F : Nat → Prop} {A : Option Addr} {xs : List ByteArray} (h : Row str w F A xs) (k : Nat) (hk : k < xs.length) :
    ∃ ad, A = some ad ∧ w.cell? (ad.add k) = some (.string xs[k]) := by
  obtain ⟨ad, u, e, _, hK, hc⟩ := h.at1 rfl k hk
  have : [u] = [.string xs[k]] := hK.1
  exact ⟨ad, e, by rw [hc]; injection this with this; rw [this]⟩
theorem Row.num_at' {k : IntKind} {w : World} {F : Nat → Prop} {A : Option Addr} {xs : List Int} (h : Row (num k) w F A xs) (i : Nat) (hi : i < xs.length) :
    ∃ ad, A = some ad ∧ w.cell? (ad.add i) = some (.int k xs[i]) ∧ (Lit.int k xs[i]).wf = true := by
  obtain ⟨ad, u, e, _, hK, hc⟩ := h.at1 rfl i hi
  have : [u] = [.int k xs[i]] := hK.1
  exact ⟨ad, e, by rw [hc]; injection this with this; rw [this], hK.2⟩
theorem i64_of_wf {n : Int} (h : (Lit.int .i64 n).wf = true) : -9223372036854775808 ≤ n ∧ n ≤ 9223372036854775807 := by
  simpa [Lit.wf, IntKind.min, IntKind.max, IntKind.signed, IntKind.bits] using h
theorem encT_ge (s : ByteArray) : s.size ≤ (encT s).length := by
  have h : s.data.toList.length = s.size := Array.length_toList
  unfold encT
  rw [List.length_append, h]
  omega
def encTs (l : List ByteArray) : List UInt8 := encN l.length ++ (l.map encT).flatten
def encIs (l : List Int) : List UInt8 := encN l.length ++ (l.map fun i => encN (zig i)).flatten
theorem flat_map_snoc {α : Type} (f : α → List UInt8) (l : List α) (k : Nat) (h : k < l.length) : ((l.take (k + 1)).map f).flatten = ((l.take k).map f).flatten ++ f l[k] := by
  rw [List.take_succ_eq_append_getElem h, List.map_append, List.flatten_append]
  simp
theorem flat_map_le {α : Type} (f : α → List UInt8) (l : List α) (k : Nat) : ((l.take k).map f).flatten.length ≤ (l.map f).flatten.length := by
  have := congrArg (fun l : List α => (l.map f).flatten.length) (List.take_append_drop k l)
  simp only [List.map_append, List.flatten_append, List.length_append] at this
  omega
end Go.Proofs.Ytaomhedjamnloaa
