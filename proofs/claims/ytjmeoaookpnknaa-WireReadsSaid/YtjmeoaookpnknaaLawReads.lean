/- WireReads: the walk of the law. -/
import Derived.Test.YtjmeoaookpnknaaWBoth
import Derived.Test.YtjmeoaookpnknaaLawTells
set_option linter.unusedVariables false
set_option linter.unusedSimpArgs false
namespace Go.Proofs.Ytjmeoaookpnknaa
open Go Go.RowKit

theorem xor8_ones (a : Nat) (h : a < 256) : bits .xor .u8 (a : Int) 255 = ((255 - a : Nat) : Int) := by
  have e : bits .xor .u8 (a : Int) 255 = IntKind.u8.wrap (((BitVec.ofInt 8 (a : Int) ^^^ BitVec.ofInt 8 255).toNat : Nat) : Int) := rfl
  rw [e, BitVec.ofInt_natCast, show BitVec.ofInt 8 255 = BitVec.allOnes 8 from rfl, BitVec.xor_allOnes, BitVec.toNat_not, BitVec.toNat_ofNat, Nat.mod_eq_of_lt h, IntKind.wrap_u8]
  omega
theorem q_new {w : World} {B : Nat} {v : Value} {l : List UInt8} (ho : Own kb 5 w B (fun _ => False) v l) (hB : B ≤ w.heap.size) (hl : l.length ≤ 1099511627776) :
    ∃ A c, v = .slice A l.length c ∧ QAt (w.alloc (.cells #[.slice A l.length c, .int .i64 0, .int .i64 0] 52)) B w.heap.size A c ⟨l, 0, 0⟩ ∧ ∀ a, A = some a → B ≤ a.block ∧ a.block < w.heap.size := by
  have hat := fun k (h : v.ownBlock = some k) => ho.at h
  obtain ⟨A2, c2, rfl, h1, h2, hr2⟩ := ho.sl
  have hb : ∀ a, A2 = some a → B ≤ a.block ∧ a.block < w.heap.size := fun a ha => hat a.block (by rw [ha]; rfl)
  refine ⟨A2, c2, rfl, ⟨hB, heap_alloc_new _ _, Nat.zero_le _, h1, h2, hl, fun a ha => ?_, ?_⟩, hb⟩
  · have := hb a ha
    refine ⟨by omega, ?_⟩
    rw [show (w.alloc (.cells #[.slice A2 l.length c2, .int .i64 0, .int .i64 0] 52)).heap.size = w.heap.size + 1 by simp]
    omega
  · refine (hr2.alloc _).mono fun k hk => ?_
    cases A2 with
    | none => cases hk.resolve_left id
    | some a =>
      have := hk.resolve_left id
      injection this with this
      exact ⟨a, rfl, this.symm⟩
theorem Two1.far {w W : World} {B g h : Nat} {A : Option Addr} {c : Nat} {A' : Option Addr} {c' : Nat} {x : RdM} (t : Two1 w B g h A c A' c' x) (hs : w.heap.size ≤ W.heap.size) (hA' : ∀ a, A' = some a → B ≤ a.block) (hm : ∀ k, B ≤ k → k < w.heap.size → W.heap[k]? = w.heap[k]?) : Two1 W B g h A c A' c' x :=
  ⟨t.p.move hs fun k hk hor => hm k (by
      rcases hor with rfl | ⟨a, ha, rfl⟩
      · exact t.p.base
      · exact (t.p.far a ha).1) hk, t.q.move hs fun k hk hor => hm k (by
      rcases hor with rfl | ⟨a, ha, rfl⟩
      · exact t.q.base
      · exact hA' a ha) hk, t.ne, t.ah, t.ag⟩
set_option maxRecDepth 100000 in
set_option maxHeartbeats 16000000 in
theorem WireReads_calls (A0 : Option Addr) (c0 : Nat) (bl : List UInt8) (A : Option Addr) (c : Nat) (L : List (Int × Int × Int × Int × ByteArray × Bool × List ByteArray × List Int)) (w : World) (hc0 : bl.length ≤ c0) (hm0 : c0 ≤ maxLen) (hrb : Row kb w (fun k => k < w.heap.size) A0 bl) (hn : L.length ≤ maxLen) (hr : Row itK w (fun k => k < w.heap.size) A L) :
    Calls Try.prog 7 #[.slice A0 bl.length c0, .slice A L.length c] w fun e w' => e = .returned (.bool true) ∧ Below w.heap.size w w' := by
  have hn63 : L.length ≤ 9223372036854775807 := by unfold maxLen at hn; omega
  have hb63 : bl.length ≤ 9223372036854775807 := by unfold maxLen at hm0; omega
  clear hn
  go_enter Try.func7, Try.ntmps7
  go_upto_if 13 with fail
  go_cut [0] (fun v wx => ∃ l : List UInt8, v = .slice A0 l.length c0 ∧ l.length ≤ 2000 ∧ l.length ≤ c0 ∧ Row kb w (fun k => k < w.heap.size) A0 l ∧ w = wx)
  case first =>
    by_cases h2 : 2000 < bl.length
    · have h2i : (2000 : Int) < (bl.length : Int) := by omega
      have hsl := fun W => slice_to (P := Try.prog) 23 5 Try.underlying23 (by kernel_rfl) A0 bl.length c0 2000 (by decide) (by omega) W .i64
      rw [show (2000 : Int).toNat = 2000 from rfl] at hsl
      have hlen : (bl.take 2000).length = 2000 := by rw [List.length_take]; omega
      go_wp2
      go_meet
      exact ⟨bl.take 2000, by rw [hlen], by omega, by omega, hrb.take 2000, rfl⟩
    · have h2i : ¬ (2000 : Int) < (bl.length : Int) := by omega
      go_wp2
      go_meet
      exact ⟨bl, rfl, by omega, hc0, hrb, rfl⟩
  case rest =>
    obtain ⟨l, rfl, hl2, hlc, hrl, rfl⟩ := hcut
    clear hrb hc0 hb63
    have hl63 : l.length ≤ 9223372036854775807 := by omega
    have hlit := Own.lit (d := kb) (e := 5) w (Nat.le_refl _) (F := fun _ => False) [] [] 0 rfl (by decide) rfl
    have Hsl := Lib.hid (fun W (hE : Ext w W) => show Sl kb W (fun k => k < w.heap.size) (.slice A0 l.length c0) l from ⟨A0, c0, rfl, hlc, hm0, hrl.belowF (fun _ h => h) hE⟩)
    have hE1 : Ext w (w.alloc (.cells #[] 5)) := Ext.alloc _ _
    go_upto_region 4 with (at_builtin; go_must (refine app_flat kb flat_kb w.heap.size rfl (.tmp 16) (.tmp 17) 23 5 1 rfl Try.underlying23 info_u8 (.slice (some ⟨w.heap.size, 0, none⟩) 0 0) (.slice A0 l.length c0) [] l (fun _ => False) _ rfl rfl hlit (Hsl.out _ hE1) (by simp only [List.length_nil]; omega) (by simp only [maxLen, List.length_nil]; omega) (by simp) ?_; intro v4 w4 ho4 hg4 ha4))
    have hE4 : Below w.heap.size w w4 := Below.grown hE1 hg4 (by simp) (fun j hj => (hlit.at hj).1)
    have hs4 := hE4.size
    rw [List.nil_append] at ho4
    have hat4 := fun j (hj : v4.ownBlock = some j) => ho4.at hj
    obtain ⟨A4, c4, e4, h44, h4m, hrow4⟩ := ho4.sl
    subst e4
    have Ho4 := Lib.hid ho4
    have Hnr := Lib.hid (NewReader_calls A4 c4 l _ w4 (by omega) h44 h4m hrow4)
    clear ho4 hg4 ha4 hrow4 hlit hE1
    go_wp2_with fail
    refine Hnr.out.mono ?_
    rintro e w5 ⟨g, Ar, cr, rfl, hrd, hE5⟩
    have hs5 := hE5.size
    have hlit := Own.lit (d := kb) (e := 5) w5 (Nat.le_refl _) (F := fun _ => False) [] [] 0 rfl (by decide) rfl
    have hEw5 := Below.trans hE4 (Below.mono hE5 hs4)
    have hE6 : Ext w5 (w5.alloc (.cells #[] 5)) := Ext.alloc _ _
    have Hsl5 := Lib.hid (Hsl.out _ (Below.trans hEw5 (Below.mono hE6 hEw5.size)))
    have Hrd := Lib.hid hrd
    have hsa5 : w5.heap.size ≤ (w5.alloc (.cells #[] 5)).heap.size := hE6.size
    have hrow5 : ∀ j, (Value.slice (some ⟨w5.heap.size, 0, none⟩) 0 0).ownBlock = some j → w5.heap.size ≤ j := fun j hj => (hlit.at hj).1
    have hl40 : l.length ≤ 1099511627776 := by omega
    clear hrd Hnr Hsl
    go_upto_region 5 with (at_builtin; go_must (refine app_flat kb flat_kb w5.heap.size rfl (.tmp 21) (.tmp 22) 23 5 1 rfl Try.underlying23 info_u8 (.slice (some ⟨w5.heap.size, 0, none⟩) 0 0) (.slice A0 l.length c0) [] l (fun _ => False) _ rfl rfl hlit Hsl5.out (by simp only [List.length_nil]; omega) (by simp only [maxLen, List.length_nil]; omega) (by simp) ?_; intro v6 w6 ho6 hg6 ha6; rw [List.nil_append] at ho6; have hE56 : Below w5.heap.size w5 w6 := Below.grown hE6 hg6 hsa5 hrow5; have hs6 := hE56.size; obtain ⟨A6, c6, e6, hq, hA6⟩ := q_new ho6 hs6 hl40; subst e6))
    have hgl := Hrd.out.lt
    have hbase := Hrd.out.base
    have hEq := Ext.alloc w6 (.cells #[.slice A6 l.length c6, .int .i64 0, .int .i64 0] 52)
    have hE57 := Below.trans hE56 (Below.mono hEq hs6)
    have hsq := hEq.size
    have ht : Two1 (w6.alloc (.cells #[.slice A6 l.length c6, .int .i64 0, .int .i64 0] 52)) w4.heap.size g w6.heap.size Ar cr A6 c6 ⟨l, 0, 0⟩ :=
      ⟨Hrd.out.ext hE57, ⟨by omega, hq.obj, hq.pos, hq.cap, hq.max, hq.len, hq.far, hq.row⟩, by omega, fun a ha => by have := (Hrd.out.far a ha).2.2; omega, fun a ha => by have := (hA6 a ha).1; omega⟩
    have Hfar6 := Lib.hid (show ∀ a, A6 = some a → w4.heap.size ≤ a.block from fun a ha => by have := (hA6 a ha).1; omega)
    have ho7 := Ho4.out.below (Below.trans hE5 (Below.mono hE57 hs5))
    have hE7 := Below.trans hEw5 (Below.mono hE57 hEw5.size)
    have Ht := Lib.hid (And.intro ht (And.intro ho7 hE7))
    have Hat4 := Lib.hid hat4
    clear ht ho7 hE7 hq hA6 hg6 ha6 ho6 hE56 hEq hE57 hlit hE6 Hsl5 Hrd hE5 hEw5 Ho4 hat4
    generalize hw7 : w6.alloc (.cells #[.slice A6 l.length c6, .int .i64 0, .int .i64 0] 52) = w7 at *
    generalize w6.heap.size = h at *
    clear hw7
    go_wp2_with fail
    go_loopw [30] (fun i w' => ∃ (k : Nat) (l1 : List UInt8), k ≤ l.length ∧ i = .int .i64 k ∧ Hid (l1.length = l.length) ∧ Own kb 5 w' w.heap.size (fun _ => False) (.slice A4 l.length c4) l1 ∧ Two1 w' w4.heap.size g h Ar cr A6 c6 ⟨l, 0, 0⟩ ∧ Below w.heap.size w w') (fun i _ => l.length - (intOf i).toNat)
    case atStart => exact ⟨0, l, by omega, rfl, Lib.hid rfl, Ht.out.2.1, Ht.out.1, Ht.out.2.2⟩
    case round =>
      obtain ⟨k, l1, hk, rfl, Hl1, ho, ht, hE⟩ := hrel
      have hsz := hE.size
      by_cases hlt : k < l.length
      · obtain ⟨gb, cb, u, hv, hgb, hcell, hK, hfz, hset⟩ := ho.put1 rfl k (by rw [Hl1.out]; exact hlt)
        injection hv with hv1 hv2 hv3
        subst hv1
        obtain ⟨hu, _⟩ := hK
        injection hu with hu
        subst hu
        have hgb4 := (Hat4.out gb rfl).2
        have hcv := (l1[k]'(by rw [Hl1.out]; exact hlt)).toNat_lt
        obtain ⟨cv, hcvd⟩ : ∃ cv, cv = (l1[k]'(by rw [Hl1.out]; exact hlt)).toNat := ⟨_, rfl⟩
        rw [← hcvd] at hcv
        have hcell2 : wr.cell? ⟨gb, k, none⟩ = some (.int .u8 (cv : Int)) := by rw [hcvd]; exact hcell
        have hxor := xor8_ones cv hcv
        clear hcell hcvd
        have ho2 := hset (UInt8.ofNat (255 - cv)) (.int .u8 ((255 - cv : Nat) : Int)) (fun w' _ => kb_one _ _ _ (by omega)) (fun _ h => h.elim)
        have hoth : ∀ j, j ≠ gb → (wr.setCell ⟨gb, k, none⟩ (.int .u8 ((255 - cv : Nat) : Int))).heap[j]? = wr.heap[j]? := fun j hj => heap_set_ne _ _ _ _ hj
        have hsz2 : (wr.setCell ⟨gb, k, none⟩ (.int .u8 ((255 - cv : Nat) : Int))).heap.size = wr.heap.size := by simp [World.setCell]
        have ht2 := ht.far (W := wr.setCell ⟨gb, k, none⟩ (.int .u8 ((255 - cv : Nat) : Int))) (by omega) Hfar6.out (fun j hj _ => hoth j (by omega))
        have hE2 := hE.setCell (p := ⟨gb, k, none⟩) hgb (.int .u8 ((255 - cv : Nat) : Int))
        have hadd := add_zero_block gb k
        have Hend := Lib.hid (And.intro ho2 (And.intro ht2 hE2))
        clear ho2 ht2 hE2 hoth hset
        go_wp2
        refine ⟨⟨k + 1, l1.set k (UInt8.ofNat (255 - cv)), hlt, by rw [Int.natCast_succ], Lib.hid (by rw [List.length_set]; exact Hl1.out), ?_, ?_, ?_⟩, meas_lt hlt⟩
        · exact Hend.out.1
        · exact Hend.out.2.1
        · exact Hend.out.2.2
      · obtain rfl : k = l.length := by omega
        have Ht2 := Lib.hid (And.intro ht hE)
        clear ho ht hE Ht
        go_wp2_with fail
        go_loopw [42] (fun i w' => ∃ (k : Nat) (x : RdM), k ≤ L.length ∧ i = .int .i64 k ∧ Two1 w' w4.heap.size g h Ar cr A6 c6 x ∧ Below w.heap.size w w') (fun i _ => L.length - (intOf i).toNat)
        case atStart => exact ⟨0, ⟨l, 0, 0⟩, by omega, rfl, Ht2.out.1, Ht2.out.2⟩
        case round =>
          obtain ⟨k, x, hk, rfl, ht, hE⟩ := hrel
          have hsz := hE.size
          have hbh := ht.q.base
          by_cases hlt : k < L.length
          · obtain ⟨ad, Al, cl, Ai, ci, hA1, hss, hit, hc0, hcs⟩ := it_at (hr.belowF (fun _ h => h) hE) (fun _ h => h) k hlt
            subst hA1
            generalize ofT L[k] = it at *
            have hc1 := hcs 1 (.int .u64 it.u) (by decide) rfl
            have hc2 := hcs 2 (.int .i64 it.n) (by decide) rfl
            have hc3 := hcs 3 (.int .i64 it.m) (by decide) rfl
            have hc4 := hcs 4 (.string it.s) (by decide) rfl
            have hc5 := hcs 5 (.bool it.on) (by decide) rfl
            have hc6 := hcs 6 (.slice Al it.l.length cl) (by decide) rfl
            have hc7 := hcs 7 (.slice Ai it.i.length ci) (by decide) rfl
            clear hcs hss
            by_cases h60 : k < 60
            · have hEa := Ext.alloc wr (.cells (itC it Al cl Ai ci) 33)
              have hsa := hEa.size
              have hpa := heap_alloc_new wr (.cells (itC it Al cl Ai ci) 33)
              have ht0 := ht.ext hEa
              have hgl := ht.p.lt
              have hhl := ht.q.lt
              have Hbo := Lib.hid (fun W (t : Two1 W w4.heap.size g h Ar cr A6 c6 x) => both_calls W w4.heap.size g h Ar cr A6 c6 x t it Al cl Ai ci hit.ok)
              generalize bothR x it = y at *
              obtain ⟨w0, hw0⟩ : ∃ w0, w0 = wr.alloc (.cells (itC it Al cl Ai ci) 33) := ⟨_, rfl⟩
              rw [← hw0] at hEa hsa hpa ht0
              have Hit := Lib.hid (fun W (hE : Mut2 g h w0 W) => (hE.block _ (Array.getElem?_eq_some_iff.1 hpa).1 (by omega) (by omega)).trans hpa)
              have Ht0 := Lib.hid ht0
              have Hst1 := Lib.hid (fun (W W' : World) (t : Two1 W w4.heap.size g h Ar cr A6 c6 y) (hE : Chs [(g, rdObj Ar cr y), (h, qObj A6 c6 y)] W W') => (⟨t.stay1 _ _ t.p hE, t.stay2 _ _ t.q hE, t.ne, t.ah, t.ag⟩ : Two1 W' w4.heap.size g h Ar cr A6 c6 y))
              have HE := Lib.hid (And.intro hE hEa)
              unfold itC at *
              clear hEa hpa ht0 ht hE hit Ht2
              rw [eq_comm] at hw0
              have Hlf := Lib.hid (fun W (t : Two1 W w4.heap.size g h Ar cr A6 c6 y) => show ((leftR y : Nat) : Int) = (y.bs.length : Int) - (y.pos : Int) from by have := t.p.pos; unfold leftR; omega)
              have Hwr := Lib.hid (fun W (t : Two1 W w4.heap.size g h Ar cr A6 c6 y) => show IntKind.i64.wrap ((y.bs.length : Int) - (y.pos : Int)) = (y.bs.length : Int) - (y.pos : Int) from IntWalk.i64_in _ (by have := t.p.pos; have := t.p.len; omega))
              have Hcs := Lib.hid (fun (C D : Obj) (W : World) (hE : Chs [(g, C), (h, D)] w0 W) c (hc : c ∈ [(g, C), (h, D)]) => show c.1 < W.heap.size from by
                have := hE.size
                simp only [List.mem_cons, List.not_mem_nil, or_false] at hc
                rcases hc with rfl | rfl
                · show g < _; omega
                · show h < _; omega)
              go_wp2_with fail
              -- R16
              refine wp_region_stepsC (Holds [(3, g, rdObj Ar cr x), (3, h, qObj A6 c6 x)]) (Chs [(g, rdObj Ar cr y), (h, qObj A6 c6 y)]) (Chs.refl [(g, rdObj Ar cr y), (h, qObj A6 c6 y)]) (Chs.trans [(g, rdObj Ar cr y), (h, qObj A6 c6 y)]) (Chs.drew [(g, rdObj Ar cr y), (h, qObj A6 c6 y)]) [.eq (.pointer (some ⟨g, 0, none⟩)), .eq (.pointer (some ⟨h, 0, none⟩)), .eq (.agg #[.int .i64 it.kind, .int .u64 it.u, .int .i64 it.n, .int .i64 it.m, .string it.s, .bool it.on, .slice Al it.l.length cl, .slice Ai it.i.length ci]), .eqm (.bool true) (fun W => Two1 W w4.heap.size g h Ar cr A6 c6 y) Hst1.out, .eqm (.bool false) (fun W => Two1 W w4.heap.size g h Ar cr A6 c6 y) Hst1.out, .eqm (.bool false) (fun W => Two1 W w4.heap.size g h Ar cr A6 c6 y) Hst1.out, .eq (.pointer (some ⟨g, 0, none⟩)), .eq (.int .i64 y.err), .eq (.pointer (some ⟨h, 0, none⟩)), .eq (.pointer (some ⟨h, 0, none⟩)), .eq (.pointer (some ⟨h, 2, none⟩)), .eq (.int .i64 y.err), .eq (.bool false), .eqm (.bool false) (fun W => Two1 W w4.heap.size g h Ar cr A6 c6 y) Hst1.out, .eqm (.bool false) (fun W => Two1 W w4.heap.size g h Ar cr A6 c6 y) Hst1.out, .eq (.pointer (some ⟨g, 0, none⟩)), .eq (.int .i64 y.pos), .eq (.pointer (some ⟨h, 0, none⟩)), .eq (.pointer (some ⟨h, 0, none⟩)), .eq (.pointer (some ⟨h, 1, none⟩)), .eq (.int .i64 y.pos), .eq (.bool false), .eqm (.bool false) (fun W => Two1 W w4.heap.size g h Ar cr A6 c6 y) Hst1.out, .eqm (.bool false) (fun W => Two1 W w4.heap.size g h Ar cr A6 c6 y) Hst1.out, .eq (.pointer (some ⟨g, 0, none⟩)), .eq (.int .i64 ((y.bs.length : Int) - (y.pos : Int))), .eq (.pointer (some ⟨h, 0, none⟩)), .eq (.pointer (some ⟨h, 0, none⟩)), .eq (.pointer (some ⟨h, 0, none⟩)), .eq (.slice A6 y.bs.length c6), .eq (.int .i64 y.bs.length), .eq (.pointer (some ⟨h, 0, none⟩)), .eq (.pointer (some ⟨h, 0, none⟩)), .eq (.pointer (some ⟨h, 1, none⟩)), .eq (.int .i64 y.pos), .eq (.int .i64 ((y.bs.length : Int) - (y.pos : Int))), .eq (.bool false), .eqm (.bool false) (fun W => Two1 W w4.heap.size g h Ar cr A6 c6 y) Hst1.out] (by kernel_rfl) (holds_start (holds_cons Ht0.out.p.obj (holds_cons Ht0.out.q.obj (holds_nil _)))) (by kernel_rfl) (fun j o' hj hd v v' w h => (none_not (by kernel_rfl) hj hd).elim) ?_ ?_
              · refine ⟨?_, ?_, ?_, ?_, ?_, ?_, ?_, ?_, ?_, ?_, ?_, ?_, ?_, ?_, ?_, ?_, ?_, ?_, ?_, ?_, ?_, ?_, ?_, ?_, ?_, ?_, ?_, ?_, ?_, ?_, ?_, ?_, ?_, ?_, ?_, ?_, ?_, ?_, trivial⟩
                · intro S W K hE hn hf hd hK
                  have f6 : S.tmps.getD 6 undef = .pointer (some ⟨g, 0, none⟩) := hf 6 (by kernel_rfl)
                  refine want_free rfl ?_
                  rw [Array.getD_eq_getD_getElem?] at f6
                  go_simp
                  exact hK _ _ (Chs.refl [(g, rdObj Ar cr y), (h, qObj A6 c6 y)] _) (fun _ _ h => h) (rfl)
                · intro S W K hE hn hf hd hK
                  have f7 : S.tmps.getD 7 undef = .pointer (some ⟨h, 0, none⟩) := hf 7 (by kernel_rfl)
                  refine want_free rfl ?_
                  rw [Array.getD_eq_getD_getElem?] at f7
                  go_simp
                  exact hK _ _ (Chs.refl [(g, rdObj Ar cr y), (h, qObj A6 c6 y)] _) (fun _ _ h => h) (rfl)
                · intro S W K hE hn hf hd hK
                  have f10 : S.tmps.getD 10 undef = .pointer (some ⟨wr.heap.size, 0, none⟩) := hf 10 (by kernel_rfl)
                  refine want_free rfl ?_
                  rw [Array.getD_eq_getD_getElem?] at f10
                  have hh := Hit.out W hE.toMut2
                  have b0 := (cell_at hh 0).trans (show _ = some (.int .i64 it.kind) from rfl)
                  have b1 := (cell_at hh 1).trans (show _ = some (.int .u64 it.u) from rfl)
                  have b2 := (cell_at hh 2).trans (show _ = some (.int .i64 it.n) from rfl)
                  have b3 := (cell_at hh 3).trans (show _ = some (.int .i64 it.m) from rfl)
                  have b4 := (cell_at hh 4).trans (show _ = some (.string it.s) from rfl)
                  have b5 := (cell_at hh 5).trans (show _ = some (.bool it.on) from rfl)
                  have b6 := (cell_at hh 6).trans (show _ = some (.slice Al it.l.length cl) from rfl)
                  have b7 := (cell_at hh 7).trans (show _ = some (.slice Ai it.i.length ci) from rfl)
                  go_simp
                  exact hK _ _ (Chs.refl _ _) (fun _ _ h => h) rfl
                · intro S W K hE hn hf hd hK
                  have hn2 : W.heap[h]? = some (qObj A6 c6 x) := hn (3, h, qObj A6 c6 x) (by simp) rfl
                  have hn : W.heap[g]? = some (rdObj Ar cr x) := hn (3, g, rdObj Ar cr x) (by simp) rfl
                  have d49 : S.tmps.getD 49 undef = (.pointer (some ⟨g, 0, none⟩)) := hd 0 _ rfl (by kernel_rfl)
                  have d50 : S.tmps.getD 50 undef = (.pointer (some ⟨h, 0, none⟩)) := hd 1 _ rfl (by kernel_rfl)
                  have d51 : S.tmps.getD 51 undef = (.agg #[.int .i64 it.kind, .int .u64 it.u, .int .i64 it.n, .int .i64 it.m, .string it.s, .bool it.on, .slice Al it.l.length cl, .slice Ai it.i.length ci]) := hd 2 _ rfl (by kernel_rfl)
                  refine want_free rfl ?_
                  rw [Array.getD_eq_getD_getElem?] at d49 d50 d51
                  go_simp
                  refine (Hbo.out W ⟨Ht0.out.chs1 hE hn, Ht0.out.chs2 hE hn2, Ht0.out.ne, Ht0.out.ah, Ht0.out.ag⟩).mono ?_
                  rintro e W' ⟨rfl, ht2, hm2⟩
                  refine hK _ _ ⟨hm2.os, hm2.tape, hm2.output, hm2.size, fun k hk hn => hm2.block k hk (fun e => hn (g, rdObj Ar cr y) (by simp) e.symm) (fun e => hn (h, qObj A6 c6 y) (by simp) e.symm), fun c hc => ?_⟩ (fun j hj hh y hy e => ?_) ⟨rfl, ht2⟩
                  · simp only [List.mem_cons, List.not_mem_nil, or_false] at hc
                    rcases hc with rfl | rfl
                    · exact .inr ht2.p.obj
                    · exact .inr ht2.q.obj
                  · simp only [List.mem_cons, List.not_mem_nil, or_false] at hy
                    rcases hy with rfl | rfl <;> exact absurd e.symm hj
                · intro S W K hE hn hf hd hK
                  have m52 := (hd 3 _ rfl (by kernel_rfl)).2
                  have d52 : S.tmps.getD 52 undef = (.bool true) := (hd 3 _ rfl (by kernel_rfl)).1
                  refine want_free rfl ?_
                  rw [Array.getD_eq_getD_getElem?] at d52
                  go_simp
                  exact hK _ _ (Chs.refl _ _) (fun _ _ h => h) ⟨rfl, m52⟩
                · intro S W K hE hn hf hd hK
                  have m53 := (hd 4 _ rfl (by kernel_rfl)).2
                  have d53 : S.tmps.getD 53 undef = (.bool false) := (hd 4 _ rfl (by kernel_rfl)).1
                  refine want_free rfl ?_
                  rw [Array.getD_eq_getD_getElem?] at d53
                  go_simp
                  exact hK _ _ (Chs.refl _ _) (fun _ _ h => h) ⟨rfl, m53⟩
                · intro S W K hE hn hf hd hK
                  have f6 : S.tmps.getD 6 undef = .pointer (some ⟨g, 0, none⟩) := hf 6 (by kernel_rfl)
                  have m54 := (hd 5 _ rfl (by kernel_rfl)).2
                  have d54 : S.tmps.getD 54 undef = (.bool false) := (hd 5 _ rfl (by kernel_rfl)).1
                  refine want_then (t := 54) d54 rfl rfl rfl ?_
                  rw [Array.getD_eq_getD_getElem?] at f6 d54
                  go_simp
                  exact hK _ _ (Chs.refl [(g, rdObj Ar cr y), (h, qObj A6 c6 y)] _) (fun _ _ h => h) (rfl)
                · intro S W K hE hn hf hd hK
                  have d55 : S.tmps.getD 55 undef = (.pointer (some ⟨g, 0, none⟩)) := hd 6 _ rfl (by kernel_rfl)
                  have m54 := (hd 5 _ rfl (by kernel_rfl)).2
                  have d54 : S.tmps.getD 54 undef = (.bool false) := (hd 5 _ rfl (by kernel_rfl)).1
                  refine want_then (t := 54) d54 rfl rfl rfl ?_
                  rw [Array.getD_eq_getD_getElem?] at d55 d54
                  go_simp
                  refine (rdErr_calls W w4.heap.size g Ar cr y m54.p).mono ?_
                  rintro e W' ⟨rfl, rfl⟩
                  exact hK _ _ (Chs.refl _ _) (fun _ _ h => h) rfl
                · intro S W K hE hn hf hd hK
                  have f7 : S.tmps.getD 7 undef = .pointer (some ⟨h, 0, none⟩) := hf 7 (by kernel_rfl)
                  have m54 := (hd 5 _ rfl (by kernel_rfl)).2
                  have d54 : S.tmps.getD 54 undef = (.bool false) := (hd 5 _ rfl (by kernel_rfl)).1
                  refine want_then (t := 54) d54 rfl rfl rfl ?_
                  rw [Array.getD_eq_getD_getElem?] at f7 d54
                  go_simp
                  exact hK _ _ (Chs.refl [(g, rdObj Ar cr y), (h, qObj A6 c6 y)] _) (fun _ _ h => h) (rfl)
                · intro S W K hE hn hf hd hK
                  have d57 : S.tmps.getD 57 undef = (.pointer (some ⟨h, 0, none⟩)) := hd 8 _ rfl (by kernel_rfl)
                  have m54 := (hd 5 _ rfl (by kernel_rfl)).2
                  have d54 : S.tmps.getD 54 undef = (.bool false) := (hd 5 _ rfl (by kernel_rfl)).1
                  refine want_then (t := 54) d54 rfl rfl rfl ?_
                  rw [Array.getD_eq_getD_getElem?] at d57 d54
                  go_simp
                  exact hK _ _ (Chs.refl [(g, rdObj Ar cr y), (h, qObj A6 c6 y)] _) (fun _ _ h => h) (rfl)
                · intro S W K hE hn hf hd hK
                  have d58 : S.tmps.getD 58 undef = (.pointer (some ⟨h, 0, none⟩)) := hd 9 _ rfl (by kernel_rfl)
                  have m54 := (hd 5 _ rfl (by kernel_rfl)).2
                  have d54 : S.tmps.getD 54 undef = (.bool false) := (hd 5 _ rfl (by kernel_rfl)).1
                  refine want_then (t := 54) d54 rfl rfl rfl ?_
                  rw [Array.getD_eq_getD_getElem?] at d58 d54
                  go_simp
                  exact hK _ _ (Chs.refl [(g, rdObj Ar cr y), (h, qObj A6 c6 y)] _) (fun _ _ h => h) (rfl)
                · intro S W K hE hn hf hd hK
                  have d59 : S.tmps.getD 59 undef = (.pointer (some ⟨h, 2, none⟩)) := hd 10 _ rfl (by kernel_rfl)
                  have m54 := (hd 5 _ rfl (by kernel_rfl)).2
                  have d54 : S.tmps.getD 54 undef = (.bool false) := (hd 5 _ rfl (by kernel_rfl)).1
                  refine want_then (t := 54) d54 rfl rfl rfl ?_
                  rw [Array.getD_eq_getD_getElem?] at d59 d54
                  obtain ⟨q0, q1, q2⟩ := m54.q.cells
                  go_simp
                  exact hK _ _ (Chs.refl _ _) (fun _ _ h => h) rfl
                · intro S W K hE hn hf hd hK
                  have d56 : S.tmps.getD 56 undef = (.int .i64 y.err) := hd 7 _ rfl (by kernel_rfl)
                  have d60 : S.tmps.getD 60 undef = (.int .i64 y.err) := hd 11 _ rfl (by kernel_rfl)
                  have m54 := (hd 5 _ rfl (by kernel_rfl)).2
                  have d54 : S.tmps.getD 54 undef = (.bool false) := (hd 5 _ rfl (by kernel_rfl)).1
                  refine want_then (t := 54) d54 rfl rfl rfl ?_
                  rw [Array.getD_eq_getD_getElem?] at d56 d60 d54
                  go_simp
                  exact hK _ _ (Chs.refl _ _) (fun _ _ h => h) (by first | rfl | simp)
                · intro S W K hE hn hf hd hK
                  have m54 := (hd 5 _ rfl (by kernel_rfl)).2
                  have d54 : S.tmps.getD 54 undef = (.bool false) := (hd 5 _ rfl (by kernel_rfl)).1
                  have d61 : S.tmps.getD 61 undef = (.bool false) := hd 12 _ rfl (by kernel_rfl)
                  refine want_free rfl ?_
                  rw [Array.getD_eq_getD_getElem?] at d54 d61
                  go_simp
                  exact hK _ _ (Chs.refl _ _) (fun _ _ h => h) ⟨rfl, m54⟩
                · intro S W K hE hn hf hd hK
                  have m62 := (hd 13 _ rfl (by kernel_rfl)).2
                  have d62 : S.tmps.getD 62 undef = (.bool false) := (hd 13 _ rfl (by kernel_rfl)).1
                  refine want_free rfl ?_
                  rw [Array.getD_eq_getD_getElem?] at d62
                  go_simp
                  exact hK _ _ (Chs.refl _ _) (fun _ _ h => h) ⟨rfl, m62⟩
                · intro S W K hE hn hf hd hK
                  have f6 : S.tmps.getD 6 undef = .pointer (some ⟨g, 0, none⟩) := hf 6 (by kernel_rfl)
                  have m63 := (hd 14 _ rfl (by kernel_rfl)).2
                  have d63 : S.tmps.getD 63 undef = (.bool false) := (hd 14 _ rfl (by kernel_rfl)).1
                  refine want_then (t := 63) d63 rfl rfl rfl ?_
                  rw [Array.getD_eq_getD_getElem?] at f6 d63
                  go_simp
                  exact hK _ _ (Chs.refl [(g, rdObj Ar cr y), (h, qObj A6 c6 y)] _) (fun _ _ h => h) (rfl)
                · intro S W K hE hn hf hd hK
                  have d64 : S.tmps.getD 64 undef = (.pointer (some ⟨g, 0, none⟩)) := hd 15 _ rfl (by kernel_rfl)
                  have m63 := (hd 14 _ rfl (by kernel_rfl)).2
                  have d63 : S.tmps.getD 63 undef = (.bool false) := (hd 14 _ rfl (by kernel_rfl)).1
                  refine want_then (t := 63) d63 rfl rfl rfl ?_
                  rw [Array.getD_eq_getD_getElem?] at d64 d63
                  go_simp
                  refine (rdAt_calls W w4.heap.size g Ar cr y m63.p).mono ?_
                  rintro e W' ⟨rfl, rfl⟩
                  exact hK _ _ (Chs.refl _ _) (fun _ _ h => h) rfl
                · intro S W K hE hn hf hd hK
                  have f7 : S.tmps.getD 7 undef = .pointer (some ⟨h, 0, none⟩) := hf 7 (by kernel_rfl)
                  have m63 := (hd 14 _ rfl (by kernel_rfl)).2
                  have d63 : S.tmps.getD 63 undef = (.bool false) := (hd 14 _ rfl (by kernel_rfl)).1
                  refine want_then (t := 63) d63 rfl rfl rfl ?_
                  rw [Array.getD_eq_getD_getElem?] at f7 d63
                  go_simp
                  exact hK _ _ (Chs.refl [(g, rdObj Ar cr y), (h, qObj A6 c6 y)] _) (fun _ _ h => h) (rfl)
                · intro S W K hE hn hf hd hK
                  have d66 : S.tmps.getD 66 undef = (.pointer (some ⟨h, 0, none⟩)) := hd 17 _ rfl (by kernel_rfl)
                  have m63 := (hd 14 _ rfl (by kernel_rfl)).2
                  have d63 : S.tmps.getD 63 undef = (.bool false) := (hd 14 _ rfl (by kernel_rfl)).1
                  refine want_then (t := 63) d63 rfl rfl rfl ?_
                  rw [Array.getD_eq_getD_getElem?] at d66 d63
                  go_simp
                  exact hK _ _ (Chs.refl [(g, rdObj Ar cr y), (h, qObj A6 c6 y)] _) (fun _ _ h => h) (rfl)
                · intro S W K hE hn hf hd hK
                  have d67 : S.tmps.getD 67 undef = (.pointer (some ⟨h, 0, none⟩)) := hd 18 _ rfl (by kernel_rfl)
                  have m63 := (hd 14 _ rfl (by kernel_rfl)).2
                  have d63 : S.tmps.getD 63 undef = (.bool false) := (hd 14 _ rfl (by kernel_rfl)).1
                  refine want_then (t := 63) d63 rfl rfl rfl ?_
                  rw [Array.getD_eq_getD_getElem?] at d67 d63
                  go_simp
                  exact hK _ _ (Chs.refl [(g, rdObj Ar cr y), (h, qObj A6 c6 y)] _) (fun _ _ h => h) (rfl)
                · intro S W K hE hn hf hd hK
                  have d68 : S.tmps.getD 68 undef = (.pointer (some ⟨h, 1, none⟩)) := hd 19 _ rfl (by kernel_rfl)
                  have m63 := (hd 14 _ rfl (by kernel_rfl)).2
                  have d63 : S.tmps.getD 63 undef = (.bool false) := (hd 14 _ rfl (by kernel_rfl)).1
                  refine want_then (t := 63) d63 rfl rfl rfl ?_
                  rw [Array.getD_eq_getD_getElem?] at d68 d63
                  obtain ⟨q0, q1, q2⟩ := m63.q.cells
                  go_simp
                  exact hK _ _ (Chs.refl _ _) (fun _ _ h => h) rfl
                · intro S W K hE hn hf hd hK
                  have d65 : S.tmps.getD 65 undef = (.int .i64 y.pos) := hd 16 _ rfl (by kernel_rfl)
                  have d69 : S.tmps.getD 69 undef = (.int .i64 y.pos) := hd 20 _ rfl (by kernel_rfl)
                  have m63 := (hd 14 _ rfl (by kernel_rfl)).2
                  have d63 : S.tmps.getD 63 undef = (.bool false) := (hd 14 _ rfl (by kernel_rfl)).1
                  refine want_then (t := 63) d63 rfl rfl rfl ?_
                  rw [Array.getD_eq_getD_getElem?] at d65 d69 d63
                  go_simp
                  exact hK _ _ (Chs.refl _ _) (fun _ _ h => h) (by first | rfl | simp)
                · intro S W K hE hn hf hd hK
                  have m63 := (hd 14 _ rfl (by kernel_rfl)).2
                  have d63 : S.tmps.getD 63 undef = (.bool false) := (hd 14 _ rfl (by kernel_rfl)).1
                  have d70 : S.tmps.getD 70 undef = (.bool false) := hd 21 _ rfl (by kernel_rfl)
                  refine want_free rfl ?_
                  rw [Array.getD_eq_getD_getElem?] at d63 d70
                  go_simp
                  exact hK _ _ (Chs.refl _ _) (fun _ _ h => h) ⟨rfl, m63⟩
                · intro S W K hE hn hf hd hK
                  have m71 := (hd 22 _ rfl (by kernel_rfl)).2
                  have d71 : S.tmps.getD 71 undef = (.bool false) := (hd 22 _ rfl (by kernel_rfl)).1
                  refine want_free rfl ?_
                  rw [Array.getD_eq_getD_getElem?] at d71
                  go_simp
                  exact hK _ _ (Chs.refl _ _) (fun _ _ h => h) ⟨rfl, m71⟩
                · intro S W K hE hn hf hd hK
                  have f6 : S.tmps.getD 6 undef = .pointer (some ⟨g, 0, none⟩) := hf 6 (by kernel_rfl)
                  have m72 := (hd 23 _ rfl (by kernel_rfl)).2
                  have d72 : S.tmps.getD 72 undef = (.bool false) := (hd 23 _ rfl (by kernel_rfl)).1
                  refine want_then (t := 72) d72 rfl rfl rfl ?_
                  rw [Array.getD_eq_getD_getElem?] at f6 d72
                  go_simp
                  exact hK _ _ (Chs.refl [(g, rdObj Ar cr y), (h, qObj A6 c6 y)] _) (fun _ _ h => h) (rfl)
                · intro S W K hE hn hf hd hK
                  have d73 : S.tmps.getD 73 undef = (.pointer (some ⟨g, 0, none⟩)) := hd 24 _ rfl (by kernel_rfl)
                  have m72 := (hd 23 _ rfl (by kernel_rfl)).2
                  have d72 : S.tmps.getD 72 undef = (.bool false) := (hd 23 _ rfl (by kernel_rfl)).1
                  refine want_then (t := 72) d72 rfl rfl rfl ?_
                  rw [Array.getD_eq_getD_getElem?] at d73 d72
                  go_simp
                  refine (rdLeft_calls W w4.heap.size g Ar cr y m72.p).mono ?_
                  rintro e W' ⟨rfl, nd, rfl⟩
                  exact hK _ _ (Chs.of (Hcs.out _ _ W hE) (Drawn.below ⟨nd, rfl⟩)) (fun _ _ h => h) (congrArg (Value.int .i64) (Hlf.out W m72))
                · intro S W K hE hn hf hd hK
                  have f7 : S.tmps.getD 7 undef = .pointer (some ⟨h, 0, none⟩) := hf 7 (by kernel_rfl)
                  have m72 := (hd 23 _ rfl (by kernel_rfl)).2
                  have d72 : S.tmps.getD 72 undef = (.bool false) := (hd 23 _ rfl (by kernel_rfl)).1
                  refine want_then (t := 72) d72 rfl rfl rfl ?_
                  rw [Array.getD_eq_getD_getElem?] at f7 d72
                  go_simp
                  exact hK _ _ (Chs.refl [(g, rdObj Ar cr y), (h, qObj A6 c6 y)] _) (fun _ _ h => h) (rfl)
                · intro S W K hE hn hf hd hK
                  have d75 : S.tmps.getD 75 undef = (.pointer (some ⟨h, 0, none⟩)) := hd 26 _ rfl (by kernel_rfl)
                  have m72 := (hd 23 _ rfl (by kernel_rfl)).2
                  have d72 : S.tmps.getD 72 undef = (.bool false) := (hd 23 _ rfl (by kernel_rfl)).1
                  refine want_then (t := 72) d72 rfl rfl rfl ?_
                  rw [Array.getD_eq_getD_getElem?] at d75 d72
                  go_simp
                  exact hK _ _ (Chs.refl [(g, rdObj Ar cr y), (h, qObj A6 c6 y)] _) (fun _ _ h => h) (rfl)
                · intro S W K hE hn hf hd hK
                  have d76 : S.tmps.getD 76 undef = (.pointer (some ⟨h, 0, none⟩)) := hd 27 _ rfl (by kernel_rfl)
                  have m72 := (hd 23 _ rfl (by kernel_rfl)).2
                  have d72 : S.tmps.getD 72 undef = (.bool false) := (hd 23 _ rfl (by kernel_rfl)).1
                  refine want_then (t := 72) d72 rfl rfl rfl ?_
                  rw [Array.getD_eq_getD_getElem?] at d76 d72
                  go_simp
                  exact hK _ _ (Chs.refl [(g, rdObj Ar cr y), (h, qObj A6 c6 y)] _) (fun _ _ h => h) (rfl)
                · intro S W K hE hn hf hd hK
                  have d77 : S.tmps.getD 77 undef = (.pointer (some ⟨h, 0, none⟩)) := hd 28 _ rfl (by kernel_rfl)
                  have m72 := (hd 23 _ rfl (by kernel_rfl)).2
                  have d72 : S.tmps.getD 72 undef = (.bool false) := (hd 23 _ rfl (by kernel_rfl)).1
                  refine want_then (t := 72) d72 rfl rfl rfl ?_
                  rw [Array.getD_eq_getD_getElem?] at d77 d72
                  obtain ⟨q0, q1, q2⟩ := m72.q.cells
                  go_simp
                  exact hK _ _ (Chs.refl _ _) (fun _ _ h => h) rfl
                · intro S W K hE hn hf hd hK
                  have d78 : S.tmps.getD 78 undef = (.slice A6 y.bs.length c6) := hd 29 _ rfl (by kernel_rfl)
                  have m72 := (hd 23 _ rfl (by kernel_rfl)).2
                  have d72 : S.tmps.getD 72 undef = (.bool false) := (hd 23 _ rfl (by kernel_rfl)).1
                  refine want_then (t := 72) d72 rfl rfl rfl ?_
                  rw [Array.getD_eq_getD_getElem?] at d78 d72
                  go_simp
                  exact hK _ _ (Chs.refl [(g, rdObj Ar cr y), (h, qObj A6 c6 y)] _) (fun _ _ h => h) (rfl)
                · intro S W K hE hn hf hd hK
                  have f7 : S.tmps.getD 7 undef = .pointer (some ⟨h, 0, none⟩) := hf 7 (by kernel_rfl)
                  have m72 := (hd 23 _ rfl (by kernel_rfl)).2
                  have d72 : S.tmps.getD 72 undef = (.bool false) := (hd 23 _ rfl (by kernel_rfl)).1
                  refine want_then (t := 72) d72 rfl rfl rfl ?_
                  rw [Array.getD_eq_getD_getElem?] at f7 d72
                  go_simp
                  exact hK _ _ (Chs.refl [(g, rdObj Ar cr y), (h, qObj A6 c6 y)] _) (fun _ _ h => h) (rfl)
                · intro S W K hE hn hf hd hK
                  have d80 : S.tmps.getD 80 undef = (.pointer (some ⟨h, 0, none⟩)) := hd 31 _ rfl (by kernel_rfl)
                  have m72 := (hd 23 _ rfl (by kernel_rfl)).2
                  have d72 : S.tmps.getD 72 undef = (.bool false) := (hd 23 _ rfl (by kernel_rfl)).1
                  refine want_then (t := 72) d72 rfl rfl rfl ?_
                  rw [Array.getD_eq_getD_getElem?] at d80 d72
                  go_simp
                  exact hK _ _ (Chs.refl [(g, rdObj Ar cr y), (h, qObj A6 c6 y)] _) (fun _ _ h => h) (rfl)
                · intro S W K hE hn hf hd hK
                  have d81 : S.tmps.getD 81 undef = (.pointer (some ⟨h, 0, none⟩)) := hd 32 _ rfl (by kernel_rfl)
                  have m72 := (hd 23 _ rfl (by kernel_rfl)).2
                  have d72 : S.tmps.getD 72 undef = (.bool false) := (hd 23 _ rfl (by kernel_rfl)).1
                  refine want_then (t := 72) d72 rfl rfl rfl ?_
                  rw [Array.getD_eq_getD_getElem?] at d81 d72
                  go_simp
                  exact hK _ _ (Chs.refl [(g, rdObj Ar cr y), (h, qObj A6 c6 y)] _) (fun _ _ h => h) (rfl)
                · intro S W K hE hn hf hd hK
                  have d82 : S.tmps.getD 82 undef = (.pointer (some ⟨h, 1, none⟩)) := hd 33 _ rfl (by kernel_rfl)
                  have m72 := (hd 23 _ rfl (by kernel_rfl)).2
                  have d72 : S.tmps.getD 72 undef = (.bool false) := (hd 23 _ rfl (by kernel_rfl)).1
                  refine want_then (t := 72) d72 rfl rfl rfl ?_
                  rw [Array.getD_eq_getD_getElem?] at d82 d72
                  obtain ⟨q0, q1, q2⟩ := m72.q.cells
                  go_simp
                  exact hK _ _ (Chs.refl _ _) (fun _ _ h => h) rfl
                · intro S W K hE hn hf hd hK
                  have d79 : S.tmps.getD 79 undef = (.int .i64 y.bs.length) := hd 30 _ rfl (by kernel_rfl)
                  have d83 : S.tmps.getD 83 undef = (.int .i64 y.pos) := hd 34 _ rfl (by kernel_rfl)
                  have m72 := (hd 23 _ rfl (by kernel_rfl)).2
                  have d72 : S.tmps.getD 72 undef = (.bool false) := (hd 23 _ rfl (by kernel_rfl)).1
                  refine want_then (t := 72) d72 rfl rfl rfl ?_
                  rw [Array.getD_eq_getD_getElem?] at d79 d83 d72
                  have hwr := Hwr.out W m72
                  go_simp
                  exact hK _ _ (Chs.refl _ _) (fun _ _ h => h) rfl
                · intro S W K hE hn hf hd hK
                  have d74 : S.tmps.getD 74 undef = (.int .i64 ((y.bs.length : Int) - (y.pos : Int))) := hd 25 _ rfl (by kernel_rfl)
                  have d84 : S.tmps.getD 84 undef = (.int .i64 ((y.bs.length : Int) - (y.pos : Int))) := hd 35 _ rfl (by kernel_rfl)
                  have m72 := (hd 23 _ rfl (by kernel_rfl)).2
                  have d72 : S.tmps.getD 72 undef = (.bool false) := (hd 23 _ rfl (by kernel_rfl)).1
                  refine want_then (t := 72) d72 rfl rfl rfl ?_
                  rw [Array.getD_eq_getD_getElem?] at d74 d84 d72
                  go_simp
                  exact hK _ _ (Chs.refl _ _) (fun _ _ h => h) (by first | rfl | simp)
                · intro S W K hE hn hf hd hK
                  have m72 := (hd 23 _ rfl (by kernel_rfl)).2
                  have d72 : S.tmps.getD 72 undef = (.bool false) := (hd 23 _ rfl (by kernel_rfl)).1
                  have d85 : S.tmps.getD 85 undef = (.bool false) := hd 36 _ rfl (by kernel_rfl)
                  refine want_free rfl ?_
                  rw [Array.getD_eq_getD_getElem?] at d72 d85
                  go_simp
                  exact hK _ _ (Chs.refl _ _) (fun _ _ h => h) ⟨rfl, m72⟩
              · intro vs W hE hV
                have v0 : vs 0 = (.pointer (some ⟨g, 0, none⟩)) := hV 0 _ rfl
                have v1 : vs 1 = (.pointer (some ⟨h, 0, none⟩)) := hV 1 _ rfl
                have v2 : vs 2 = (.agg #[.int .i64 it.kind, .int .u64 it.u, .int .i64 it.n, .int .i64 it.m, .string it.s, .bool it.on, .slice Al it.l.length cl, .slice Ai it.i.length ci]) := hV 2 _ rfl
                have v3 := hV 3 _ rfl
                have e3 : vs 3 = (.bool true) := v3.1
                have v4 := hV 4 _ rfl
                have e4 : vs 4 = (.bool false) := v4.1
                have v5 := hV 5 _ rfl
                have e5 : vs 5 = (.bool false) := v5.1
                have v6 : vs 6 = (.pointer (some ⟨g, 0, none⟩)) := hV 6 _ rfl
                have v7 : vs 7 = (.int .i64 y.err) := hV 7 _ rfl
                have v8 : vs 8 = (.pointer (some ⟨h, 0, none⟩)) := hV 8 _ rfl
                have v9 : vs 9 = (.pointer (some ⟨h, 0, none⟩)) := hV 9 _ rfl
                have v10 : vs 10 = (.pointer (some ⟨h, 2, none⟩)) := hV 10 _ rfl
                have v11 : vs 11 = (.int .i64 y.err) := hV 11 _ rfl
                have v12 : vs 12 = (.bool false) := hV 12 _ rfl
                have v13 := hV 13 _ rfl
                have e13 : vs 13 = (.bool false) := v13.1
                have v14 := hV 14 _ rfl
                have e14 : vs 14 = (.bool false) := v14.1
                have v15 : vs 15 = (.pointer (some ⟨g, 0, none⟩)) := hV 15 _ rfl
                have v16 : vs 16 = (.int .i64 y.pos) := hV 16 _ rfl
                have v17 : vs 17 = (.pointer (some ⟨h, 0, none⟩)) := hV 17 _ rfl
                have v18 : vs 18 = (.pointer (some ⟨h, 0, none⟩)) := hV 18 _ rfl
                have v19 : vs 19 = (.pointer (some ⟨h, 1, none⟩)) := hV 19 _ rfl
                have v20 : vs 20 = (.int .i64 y.pos) := hV 20 _ rfl
                have v21 : vs 21 = (.bool false) := hV 21 _ rfl
                have v22 := hV 22 _ rfl
                have e22 : vs 22 = (.bool false) := v22.1
                have v23 := hV 23 _ rfl
                have e23 : vs 23 = (.bool false) := v23.1
                have v24 : vs 24 = (.pointer (some ⟨g, 0, none⟩)) := hV 24 _ rfl
                have v25 : vs 25 = (.int .i64 ((y.bs.length : Int) - (y.pos : Int))) := hV 25 _ rfl
                have v26 : vs 26 = (.pointer (some ⟨h, 0, none⟩)) := hV 26 _ rfl
                have v27 : vs 27 = (.pointer (some ⟨h, 0, none⟩)) := hV 27 _ rfl
                have v28 : vs 28 = (.pointer (some ⟨h, 0, none⟩)) := hV 28 _ rfl
                have v29 : vs 29 = (.slice A6 y.bs.length c6) := hV 29 _ rfl
                have v30 : vs 30 = (.int .i64 y.bs.length) := hV 30 _ rfl
                have v31 : vs 31 = (.pointer (some ⟨h, 0, none⟩)) := hV 31 _ rfl
                have v32 : vs 32 = (.pointer (some ⟨h, 0, none⟩)) := hV 32 _ rfl
                have v33 : vs 33 = (.pointer (some ⟨h, 1, none⟩)) := hV 33 _ rfl
                have v34 : vs 34 = (.int .i64 y.pos) := hV 34 _ rfl
                have v35 : vs 35 = (.int .i64 ((y.bs.length : Int) - (y.pos : Int))) := hV 35 _ rfl
                have v36 : vs 36 = (.bool false) := hV 36 _ rfl
                have v37 := hV 37 _ rfl
                have e37 : vs 37 = (.bool false) := v37.1
                clear hV
                set_option maxRecDepth 100000 in simp only [putAll, List.map_cons, List.map_nil, List.length_cons, List.length_nil, Nat.reduceAdd, List.range_succ, List.range_zero, List.nil_append, List.cons_append]
                set_option maxRecDepth 100000 in go_simp
              -- END16
                have hm3 := hE.toMut2
                have hs3 := hE.size
                have hE9 := Below.trans (Below.trans HE.out.1 (Below.mono HE.out.2 hsz)) (hm3.below (B := w.heap.size) (by omega) (by omega) (by omega))
                have ht9 := v3.2
                have Hend := Lib.hid (And.intro ht9 hE9)
                clear hE hm3 hE9 ht9 v3
                go_wp2
                exact ⟨⟨k + 1, y, hlt, by rw [Int.natCast_succ], Hend.out.1, Hend.out.2⟩, meas_lt hlt⟩
            · have h60i : (60 : Int) ≤ (k : Int) := by omega
              have hEa := Ext.alloc wr (.cells (itC it Al cl Ai ci) 33)
              have hE9 := Lib.hid (Below.trans hE (Below.mono hEa hsz))
              have Haw := Lib.hid (fun W => awake_calls W)
              unfold itC at *
              clear hit ht hE hEa
              go_wp2_with fail
              refine (Haw.out _).mono ?_
              rintro e w9 ⟨rfl, hb9⟩
              have hf := Below.trans hE9.out (Below.mono hb9 hE9.out.size)
              go_wp2
              go_ret
              exact ⟨rfl, hf⟩
          · have hkn : ¬ (k : Int) < (L.length : Int) := by omega
            have Haw := Lib.hid (fun W => awake_calls W)
            have hE9 := Lib.hid hE
            clear ht hE
            go_wp2_with fail
            refine (Haw.out _).mono ?_
            rintro e w9 ⟨rfl, hb9⟩
            have hf := Below.trans hE9.out (Below.mono hb9 hE9.out.size)
            go_wp2
            go_ret
            exact ⟨rfl, hf⟩
end Go.Proofs.Ytjmeoaookpnknaa
