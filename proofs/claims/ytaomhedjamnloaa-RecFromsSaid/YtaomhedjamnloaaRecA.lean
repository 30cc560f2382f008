/- Batches: the plain form, and the first contracts of rec. -/
import Derived.Test.YtaomhedjamnloaaRecP
import Derived.Test.YtaomhedjamnloaaRegion6
import Derived.Laws.Closers25b
set_option linter.unusedVariables false
set_option linter.unusedSimpArgs false
namespace Go.Proofs.Ytaomhedjamnloaa
open Go Go.RowKit

/-- A record: key, value, gone, time. -/
def recK : Kd Rc := pair str (pair str (pair boo (num .i64)))
def btC (b : BtM) (A : Option Addr) (c : Nat) : Array Value := #[.int .i64 b.base, .int .i64 b.pid, .int .i64 b.epoch, .int .i64 b.seq, .int .i64 b.kind, .int .i64 b.time, .slice A b.l.length c]
def I64 (n : Int) : Prop := -9223372036854775808 ≤ n ∧ n ≤ 9223372036854775807
structure BtOk (b : BtM) : Prop where
  base : I64 b.base
  pid : I64 b.pid
  epoch : I64 b.epoch
  seq : I64 b.seq
  kind : I64 b.kind
  time : I64 b.time
structure BtAt (w : World) (B : Nat) (b : BtM) (A : Option Addr) (c : Nat) : Prop where
  ok : BtOk b
  lc : b.l.length ≤ c ∧ c ≤ maxLen
  row : Row recK w (fun k => k < B) A b.l
theorem BtAt.below {w w' : World} {B : Nat} {b : BtM} {A : Option Addr} {c : Nat} (h : BtAt w B b A c) (hE : Below B w w') : BtAt w' B b A c := ⟨h.ok, h.lc, h.row.belowF (fun _ h => h) hE⟩
theorem BtAt.up {w : World} {B B' : Nat} {b : BtM} {A : Option Addr} {c : Nat} (h : BtAt w B b A c) (hB : B ≤ B') : BtAt w B' b A c := ⟨h.ok, h.lc, h.row.mono fun _ hk => Nat.lt_of_lt_of_le hk hB⟩
theorem ret_bool {a b : Bool} (h : a = b) : Ending.returned (.bool a) = .returned (.bool b) := by rw [h]
set_option maxRecDepth 8000 in
set_option maxHeartbeats 2000000 in
theorem mark_calls (w : World) (b : BtM) (A : Option Addr) (c : Nat) :
    Calls Try.prog 50 #[.agg (btC b A c)] w fun e w' => e = .returned (.bool (markB b)) ∧ Ext w w' := by
  unfold btC
  go_enter Try.func50, Try.ntmps50
  go_wp2
  all_goals go_ret
  all_goals exact ⟨ret_bool (by simp_all [markB]), Ext.alloc _ _⟩
set_option maxRecDepth 8000 in
set_option maxHeartbeats 2000000 in
theorem within_calls (n lo hi : Int) (w : World) :
    Calls Try.prog 101 #[.int .i64 n, .int .i64 lo, .int .i64 hi] w fun e w' => e = .returned (.bool (decide (lo ≤ n ∧ n ≤ hi))) ∧ w = w' := by
  generalize hv : decide (lo ≤ n ∧ n ≤ hi) = v
  go_enter Try.func101, Try.ntmps101
  go_wp2
  all_goals go_ret
  all_goals exact ⟨ret_bool (by rw [← hv, Bool.eq_iff_iff]; simp; omega), rfl⟩
set_option maxRecDepth 8000 in
set_option maxHeartbeats 8000000 in
theorem numbers_calls (w : World) (b : BtM) (A : Option Addr) (c : Nat) :
    Calls Try.prog 47 #[.agg (btC b A c)] w fun e w' => e = .returned (.bool (numB b)) ∧ Ext w w' := by
  generalize hv : numB b = v
  unfold numB at hv
  unfold btC
  have Hv := Lib.hid hv
  clear hv
  go_enter Try.func47, Try.ntmps47
  go_wp2_with (go_at_call 101; refine (within_calls _ _ _ _).mono ?_; rintro e w' ⟨rfl, rfl⟩)
  all_goals go_ret
  all_goals exact ⟨ret_bool (by rw [← Hv.out, Bool.eq_iff_iff]; simp; omega), Ext.alloc _ _⟩
/-- A batch's block. -/
structure BtObj (w : World) (g : Nat) (b : BtM) (A : Option Addr) (n c : Nat) : Prop where
  obj : w.heap[g]? = some (.cells #[.int .i64 b.base, .int .i64 b.pid, .int .i64 b.epoch, .int .i64 b.seq, .int .i64 b.kind, .int .i64 b.time, .slice A n c] 24 (0, 0))
theorem BtObj.ext {w w' : World} {g : Nat} {b : BtM} {A : Option Addr} {n c : Nat} (h : BtObj w g b A n c) (hE : Ext w w') : BtObj w' g b A n c := ⟨(hE.block _ (Array.getElem?_eq_some_iff.1 h.obj).1).trans h.obj⟩
theorem BtObj.cells {w : World} {g : Nat} {b : BtM} {A : Option Addr} {n c : Nat} (h : BtObj w g b A n c) :
    w.cell? ⟨g, 0, none⟩ = some (.int .i64 b.base) ∧ w.cell? ⟨g, 1, none⟩ = some (.int .i64 b.pid) ∧ w.cell? ⟨g, 2, none⟩ = some (.int .i64 b.epoch) ∧ w.cell? ⟨g, 3, none⟩ = some (.int .i64 b.seq) ∧ w.cell? ⟨g, 4, none⟩ = some (.int .i64 b.kind) ∧ w.cell? ⟨g, 5, none⟩ = some (.int .i64 b.time) ∧ w.cell? ⟨g, 6, none⟩ = some (.slice A n c) := by
  simp [World.cell?, h.obj]
theorem BtObj.new (w : World) (b : BtM) (A : Option Addr) (n c : Nat) : BtObj (w.alloc (.cells #[.int .i64 b.base, .int .i64 b.pid, .int .i64 b.epoch, .int .i64 b.seq, .int .i64 b.kind, .int .i64 b.time, .slice A n c] 24)) w.heap.size b A n c := ⟨heap_alloc_new _ _⟩
set_option maxRecDepth 8000 in
set_option maxHeartbeats 8000000 in
theorem fits_calls (w : World) (b : BtM) (A : Option Addr) (c : Nat) (hl : b.l.length ≤ 9223372036854775807) :
    Calls Try.prog 48 #[.agg (btC b A c)] w fun e w' => e = .returned (.bool (fitsB b)) ∧ Ext w w' := by
  have Hmk := Lib.hid (fun W => mark_calls W b A c)
  have hv : ∀ p, p = decide (b.pid = 0 ∧ (b.kind ≠ 0 ∨ b.epoch ≠ 0 ∨ b.seq ≠ 0)) → fitsB b = if p = true then false else if markB b = true then decide (b.seq = 0 ∧ b.l.length = 0) else decide (0 < b.l.length) := by
    rintro p rfl
    unfold fitsB
    by_cases h : b.pid = 0 ∧ (b.kind ≠ 0 ∨ b.epoch ≠ 0 ∨ b.seq ≠ 0)
    · rw [if_pos h, decide_eq_true h]; rfl
    · rw [if_neg h, decide_eq_false h]; rfl
  have Hv := Lib.hid hv
  generalize fitsB b = v at *
  generalize markB b = mk at *
  unfold btC at *
  generalize b.l.length = n at *
  have HE := Lib.hid (Ext.alloc w (.cells #[.int .i64 b.base, .int .i64 b.pid, .int .i64 b.epoch, .int .i64 b.seq, .int .i64 b.kind, .int .i64 b.time, .slice A n c] 24))
  have Hp := Lib.hid (BtObj.new w b A n c)
  obtain ⟨p, hp⟩ : ∃ p, p = decide (b.pid = 0 ∧ (b.kind ≠ 0 ∨ b.epoch ≠ 0 ∨ b.seq ≠ 0)) := ⟨_, rfl⟩
  have HP := Lib.hid hp
  clear hv hp
  go_enter Try.func48, Try.ntmps48
  go_upto_region 1 with fail
  generalize Value.agg #[.int .i64 b.base, .int .i64 b.pid, .int .i64 b.epoch, .int .i64 b.seq, .int .i64 b.kind, .int .i64 b.time, .slice A n c] = av
  generalize w.alloc (.cells #[.int .i64 b.base, .int .i64 b.pid, .int .i64 b.epoch, .int .i64 b.seq, .int .i64 b.kind, .int .i64 b.time, .slice A n c] 24) = w1 at *
  obtain ⟨k0, k1, k2, k3, k4, k5, k6⟩ := Hp.out.cells
  go_cut [20] (fun v wx => v = .bool p ∧ w1 = wx)
  case first =>
    go_wp2
    all_goals go_meet
    all_goals exact ⟨congrArg Value.bool (by rw [HP.out, Bool.eq_iff_iff]; first | (simp; omega) | simp_all), rfl⟩
  case rest =>
    obtain ⟨rfl, rfl⟩ := hcut
    have hvp := Hv.out p HP.out
    have Hvp := Lib.hid hvp
    clear hvp
    cases p with
    | true =>
      go_wp2
      go_ret
      exact ⟨ret_bool (by rw [Hvp.out]; rfl), HE.out⟩
    | false =>
      go_wp2_with fail
      refine (Hmk.out w1).mono ?_
      rintro e w2 ⟨rfl, hE2⟩
      obtain ⟨l0, l1, l2, l3, l4, l5, l6⟩ := (Hp.out.ext hE2).cells
      have hE3 := Ext.trans _ _ _ HE.out hE2
      cases mk with
      | true =>
        go_wp2
        all_goals go_ret
        all_goals exact ⟨ret_bool (by rw [Hvp.out, Bool.eq_iff_iff]; first | (simp; omega) | simp_all), hE3⟩
      | false =>
        go_wp2
        all_goals go_ret
        all_goals exact ⟨ret_bool (by rw [Hvp.out, Bool.eq_iff_iff]; first | (simp; omega) | simp_all), hE3⟩
set_option maxRecDepth 8000 in
set_option maxHeartbeats 4000000 in
theorem Span_calls (w : World) (b : BtM) (A : Option Addr) (c : Nat) :
    Calls Try.prog 15 #[.agg (btC b A c)] w fun e w' => e = .returned (.int .i64 (spanN b : Nat)) ∧ Ext w w' := by
  have Hmk := Lib.hid (fun W => mark_calls W b A c)
  unfold spanN
  generalize markB b = mk at *
  unfold btC at *
  generalize b.l.length = n at *
  have HE := Lib.hid (Ext.alloc w (.cells #[.int .i64 b.base, .int .i64 b.pid, .int .i64 b.epoch, .int .i64 b.seq, .int .i64 b.kind, .int .i64 b.time, .slice A n c] 24))
  have Hp := Lib.hid (BtObj.new w b A n c)
  cases mk with
  | true =>
    rw [if_pos rfl]
    go_enter Try.func15, Try.ntmps15
    go_upto_region 1 with fail
    generalize w.alloc (.cells #[.int .i64 b.base, .int .i64 b.pid, .int .i64 b.epoch, .int .i64 b.seq, .int .i64 b.kind, .int .i64 b.time, .slice A n c] 24) = w1 at *
    obtain ⟨k0, k1, k2, k3, k4, k5, k6⟩ := Hp.out.cells
    go_wp2_with fail
    refine (Hmk.out w1).mono ?_
    rintro e w2 ⟨rfl, hE2⟩
    go_wp2
    go_ret
    exact ⟨rfl, Ext.trans _ _ _ HE.out hE2⟩
  | false =>
    rw [if_neg (by decide)]
    go_enter Try.func15, Try.ntmps15
    go_upto_region 1 with fail
    generalize w.alloc (.cells #[.int .i64 b.base, .int .i64 b.pid, .int .i64 b.epoch, .int .i64 b.seq, .int .i64 b.kind, .int .i64 b.time, .slice A n c] 24) = w1 at *
    obtain ⟨k0, k1, k2, k3, k4, k5, k6⟩ := Hp.out.cells
    go_wp2_with fail
    refine (Hmk.out w1).mono ?_
    rintro e w2 ⟨rfl, hE2⟩
    obtain ⟨l0, l1, l2, l3, l4, l5, l6⟩ := (Hp.out.ext hE2).cells
    go_wp2
    go_ret
    exact ⟨rfl, Ext.trans _ _ _ HE.out hE2⟩
theorem ret_i64 {a b : Int} (h : a = b) : Ending.returned (.int .i64 a) = .returned (.int .i64 b) := by rw [h]
theorem str_ne0 {s : ByteArray} (h : s.size = 0) : s = ⟨#[]⟩ := by
  cases s with
  | mk d =>
    congr 1
    exact Array.eq_empty_of_size_eq_zero h
theorem str_mt (s : ByteArray) : s.toList.isEmpty = decide (s.size = 0) := by
  rw [Bool.eq_iff_iff, List.isEmpty_iff, toList_nil_iff_emptyBytes, decide_eq_true_iff]
  constructor
  · rintro rfl; rfl
  · intro h; rw [str_ne0 h]; rfl
set_option maxRecDepth 8000 in
set_option maxHeartbeats 4000000 in
theorem record_calls (w : World) (k v : ByteArray) (g : Bool) (t : Int) (hk : k.size ≤ 9223372036854775807) (hv : v.size ≤ 9223372036854775807) :
    Calls Try.prog 49 #[.agg #[.string k, .string v, .bool g, .int .i64 t]] w fun e w' => e = .returned (.int .i64 (recE (k, v, g, t))) ∧ Ext w w' := by
  generalize hr : recE (k, v, g, t) = r
  unfold recE at hr
  simp only at hr
  have Hr := Lib.hid hr
  have Hm := Lib.hid (str_mt v)
  clear hr
  have HE := Lib.hid (Ext.alloc w (.cells #[.string k, .string v, .bool g, .int .i64 t] 54))
  go_enter Try.func49, Try.ntmps49
  go_wp2_with (go_at_call 101; refine (within_calls _ _ _ _).mono ?_; rintro e w' ⟨rfl, rfl⟩)
  all_goals
    go_ret
    have hr := Hr.out
    have hm := Hm.out
    clear Hr Hm
    refine ⟨ret_i64 ?_, Ext.alloc _ _⟩
    first
    | (rw [← hr, if_pos (by omega)]; done)
    | (rw [← hr, if_neg (by omega), if_pos (by first | omega | (right; simp_all))]; done)
    | (rw [← hr, if_neg (by omega), if_neg (by first | omega | (simp_all; omega) | simp_all)]; done)
end Go.Proofs.Ytaomhedjamnloaa
