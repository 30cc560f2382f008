/- Batches, plain: which may be, and their bytes. -/
import Derived.Test.YtaomhedjamnloaaWBackLaw
set_option linter.unusedVariables false
set_option linter.unusedSimpArgs false
namespace Go.Proofs.Ytaomhedjamnloaa
open Go Go.RowKit

/-- A record: key, value, gone, time. -/
abbrev Rc := ByteArray × ByteArray × Bool × Int
structure BtM where
  base : Int
  pid : Int
  epoch : Int
  seq : Int
  kind : Int
  time : Int
  l : List Rc
def btNone : BtM := ⟨0, 0, 0, 0, 0, 0, []⟩
def markB (b : BtM) : Bool := b.kind == 2 || b.kind == 3
def numB (b : BtM) : Bool := decide (0 ≤ b.kind ∧ b.kind ≤ 3 ∧ (0 ≤ b.base ∧ b.base ≤ 1099511627776) ∧ (0 ≤ b.pid ∧ b.pid ≤ 1048576) ∧ 0 ≤ b.epoch ∧ b.epoch ≤ 32767 ∧ 0 ≤ b.seq ∧ b.seq ≤ 2147483647 ∧ 0 ≤ b.time ∧ b.time ≤ 1099511627776)
def fitsB (b : BtM) : Bool := if b.pid = 0 ∧ (b.kind ≠ 0 ∨ b.epoch ≠ 0 ∨ b.seq ≠ 0) then false else if markB b = true then decide (b.seq = 0 ∧ b.l.length = 0) else decide (0 < b.l.length)
def spanN (b : BtM) : Nat := if markB b = true then 1 else b.l.length
/-- A record's fault. -/
def recE (r : Rc) : Int :=
  if 1024 < r.1.size ∨ 1024 < r.2.1.size then 7 else if (¬ (0 ≤ r.2.2.2 ∧ r.2.2.2 ≤ 1099511627776)) ∨ (r.2.2.1 = true ∧ r.2.1.size ≠ 0) then 2 else 0
/-- The first record's fault that has one. -/
def recsE : List Rc → Int
  | [] => 0
  | r :: l => if recE r = 0 then recsE l else recE r
/-- Does it reach beyond the last offset, the last number? -/
def overB (b : BtM) : Bool := decide (1099511627776 - ((spanN b : Nat) - 1 : Int) < b.base ∨ (0 < b.pid ∧ markB b = false ∧ 2147483647 - ((spanN b : Nat) - 1 : Int) < b.seq))
def validE (b : BtM) : Int :=
  if numB b = false ∨ fitsB b = false then 2 else if 64 < b.l.length then 7 else if recsE b.l ≠ 0 then recsE b.l else if overB b = true then 24 else 0
/-- How many bytes two texts begin with alike. -/
def alikeN : List UInt8 → List UInt8 → Nat
  | a :: s, b :: t => if a = b then alikeN s t + 1 else 0
  | _, _ => 0
def keyN (a b : ByteArray) : Nat := alikeN a.data.toList b.data.toList
def cutK (s : ByteArray) (n : Nat) : ByteArray := ⟨(s.data.toList.drop n).toArray⟩
def encR (t : Int) (ahead : ByteArray) (r : Rc) : List UInt8 :=
  encN (zig (r.2.2.2 - t)) ++ ([if r.2.2.1 then 1 else 0] ++ (encN (keyN ahead r.1) ++ (encT (cutK r.1 (keyN ahead r.1)) ++ if r.2.2.1 then [] else encT r.2.1)))
def encRs (t : Int) : ByteArray → List Rc → List UInt8
  | _, [] => []
  | a, r :: l => encR t a r ++ encRs t r.1 l
def encHead (b : BtM) : List UInt8 :=
  [1, UInt8.ofNat b.kind.toNat] ++ (encN b.base.toNat ++ (encN b.pid.toNat ++ ((if 0 < b.pid then encN b.epoch.toNat ++ (if markB b = true then [] else encN b.seq.toNat) else []) ++ encN b.time.toNat)))
def encB (b : BtM) : List UInt8 := encHead b ++ if markB b = true then [] else encN b.l.length ++ encRs b.time ⟨#[]⟩ b.l
/-! ### Reading -/
def uptoR (x : RdM) (most : Int) : Int × RdM := (if most < ((UintR x).1 : Int) then most + 1 else ((UintR x).1 : Int), (UintR x).2)
/-- A record read, behind a key. -/
def readR (x : RdM) (time : Int) (ahead : ByteArray) : Option (Rc × RdM) :=
  let t := WithinR x (-1099511627776) 1099511627776
  let f := FlagR t.2
  let n := uptoR f.2 1024
  let s := TextR n.2 1024
  if (ahead.size : Int) < n.1 then none
  else
    let key : ByteArray := ⟨(ahead.data.toList.take n.1.toNat ++ s.1.data.toList).toArray⟩
    let v := if f.1 then (⟨#[]⟩, s.2) else TextR s.2 1024
    if v.2.err = 0 ∧ (keyN ahead key : Int) = n.1 then some ((key, v.1, f.1, time + t.1), v.2) else none
def readsR (time : Int) : Nat → RdM → ByteArray → Option (List Rc × RdM)
  | 0, x, _ => some ([], x)
  | n + 1, x, a => match readR x time a with
    | none => none
    | some (r, y) => match readsR time n y r.1 with
      | none => none
      | some (l, z) => some (r :: l, z)
/-- The head of a batch, read; behind the first byte. -/
def headR (x : RdM) : BtM × RdM :=
  let k := ByteR x
  let a := uptoR k.2 1099511627776
  let p := uptoR a.2 1048576
  let mk := k.1 == 2 || k.1 == 3
  let e := if 0 < p.1 then uptoR p.2 32767 else (0, p.2)
  let s := if 0 < p.1 ∧ mk = false then uptoR e.2 2147483647 else (0, e.2)
  let t := uptoR s.2 1099511627776
  (⟨a.1, p.1, e.1, s.1, k.1, t.1, []⟩, t.2)
/-- A batch read, ahead of the question for the end. -/
def bodyR (x : RdM) : Option (BtM × RdM) :=
  let v := ByteR x
  if v.1 ≠ 1 then none
  else
    let h := headR v.2
    if h.2.err ≠ 0 ∨ 1099511627776 < h.1.time then none
    else if markB h.1 = true then some h
    else
      let n := uptoR h.2 64
      if 64 < n.1 then none
      else match readsR h.1.time n.1.toNat n.2 ⟨#[]⟩ with
        | none => none
        | some (l, y) => some ({ h.1 with l := l }, y)
def decB (bs : List UInt8) : Option BtM :=
  match bodyR ⟨bs, 0, 0⟩ with
  | none => none
  | some (b, y) => if (EndR y).err = 0 ∧ validE b = 0 then some b else none
end Go.Proofs.Ytaomhedjamnloaa
