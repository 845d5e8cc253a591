/-
  Layer 2 and layer 10 as plain functions: a reader's state over fixed bytes, a writer's state, and the types that they read and write.
-/
import Derived.Test.YtagcildoebicnaaLebRefDec
import Derived.Test.YtagcildoebicnaaTypesFun3
set_option linter.unusedVariables false
namespace Go.Proofs.Ytagcildoebicnaa
namespace Oct

structure St where
  at_ : Nat
  err : Int
theorem St.eta (s : St) : (⟨s.at_, s.err⟩ : St) = s := rfl
def St.fail (s : St) (e : Int) : St := if s.err = 0 then ⟨s.at_, e⟩ else s
def byte (b : List UInt8) (s : St) : St × Int := if s.err = 0 then (if s.at_ < b.length then (⟨s.at_ + 1, 0⟩, ((b.getD s.at_ 0).toNat : Int)) else (⟨s.at_, 3⟩, 0)) else (s, 0)
def uns (b : List UInt8) (s : St) (bits : Int) : St × Int :=
  if s.err = 0 then (if (Leb.uF (b.drop s.at_) bits).2.2 = 0 then (⟨s.at_ + (Leb.uF (b.drop s.at_) bits).2.1.toNat, 0⟩, (Leb.uF (b.drop s.at_) bits).1) else (⟨s.at_, (Leb.uF (b.drop s.at_) bits).2.2⟩, 0)) else (s, 0)
def sig (b : List UInt8) (s : St) (bits : Int) : St × Int :=
  if s.err = 0 then (if (Leb.sF (b.drop s.at_) bits).2.2 = 0 then (⟨s.at_ + (Leb.sF (b.drop s.at_) bits).2.1.toNat, 0⟩, (Leb.sF (b.drop s.at_) bits).1) else (⟨s.at_, (Leb.sF (b.drop s.at_) bits).2.2⟩, 0)) else (s, 0)
def u32 (b : List UInt8) (s : St) : St × Int := uns b s 32
def count (b : List UInt8) (s : St) (most : Int) : St × Int := if (u32 b s).1.err = 0 ∧ most < (u32 b s).2 then (s.fail 6, 0) else u32 b s
def getVal (b : List UInt8) (s : St) : St × Int :=
  if (byte b s).1.err = 0 then (if (Ty.ofByte (byte b s).2).2 = true then ((byte b s).1, (Ty.ofByte (byte b s).2).1) else ((byte b s).1.fail 4, 0)) else ((byte b s).1, 0)
def getN (b : List UInt8) : Nat → St → St × List Int
  | 0, s => (s, [])
  | n + 1, s => ((getN b n (getVal b s).1).1, (getVal b s).2 :: (getN b n (getVal b s).1).2)
def getVals (b : List UInt8) (s : St) : St × List Int := getN b (count b s 8).2.toNat (count b s 8).1
/-- The state behind a byte that must be below a bound, or be one value. -/
def must (s : St) (ok : Bool) (e : Int) : St := if s.err = 0 ∧ ok = false then s.fail e else s
def getFunc (b : List UInt8) (s : St) : St × List Int × List Int :=
  let s1 := must (byte b s).1 ((byte b s).2 == 96) 4
  let p := getVals b s1
  let q := getVals b p.1
  if q.1.err = 0 then (q.1, p.2, q.2) else (q.1, [], [])
structure Lim where
  mn : Int
  mx : Int
  has : Bool
def getLim (b : List UInt8) (s : St) : St × Lim :=
  let s1 := must (byte b s).1 (decide ((byte b s).2 ≤ 1)) 4
  let n := u32 b s1
  if (byte b s).2 = 1 then
    let m := u32 b n.1
    let s3 := must m.1 (decide (n.2 ≤ m.2)) 20
    if s3.err = 0 then (s3, ⟨n.2, m.2, true⟩) else (s3, ⟨0, 0, false⟩)
  else if n.1.err = 0 then (n.1, ⟨n.2, 0, false⟩) else (n.1, ⟨0, 0, false⟩)
def getTable (b : List UInt8) (s : St) : St × Int × Lim :=
  let t := getVal b s
  let l := getLim b (must t.1 (Ty.ref t.2) 12)
  if l.1.err = 0 then (l.1, t.2, l.2) else (l.1, 0, ⟨0, 0, false⟩)
def getGlobal (b : List UInt8) (s : St) : St × Int × Bool :=
  let t := getVal b s
  let x := byte b t.1
  let s2 := must x.1 (decide (x.2 ≤ 1)) 4
  if s2.err = 0 then (s2, t.2, x.2 == 1) else (s2, 0, false)
structure Blk where
  kind : Int
  val : Int
  idx : Int
def getBlock (b : List UInt8) (s : St) : St × Blk :=
  let n := sig b s 33
  if n.1.err = 0 then
    if n.2 = -64 then (n.1, ⟨0, 0, 0⟩)
    else if 0 ≤ n.2 then (n.1, ⟨2, 0, n.2⟩)
    else if -17 ≤ n.2 ∧ (Ty.ofByte (n.2 + 128)).2 = true then (n.1, ⟨1, (Ty.ofByte (n.2 + 128)).1, 0⟩)
    else (n.1.fail 4, ⟨0, 0, 0⟩)
  else (n.1, ⟨0, 0, 0⟩)

structure Wt where
  b : List UInt8
  err : Int
def Wt.fail (s : Wt) (e : Int) : Wt := if s.err = 0 then ⟨s.b, e⟩ else s
def Wt.bytes (s : Wt) (l : List UInt8) : Wt := if s.err = 0 then ⟨s.b ++ l, 0⟩ else s
def b8 (x : Int) : UInt8 := UInt8.ofNat x.toNat
def putU32 (s : Wt) (n : Int) : Wt := if n < 0 ∨ 4294967295 < n then s.fail 1 else s.bytes (Leb.putU n.toNat)
def putS33 (s : Wt) (n : Int) : Wt := if n < -4294967296 ∨ 4294967295 < n then s.fail 1 else s.bytes (Leb.putS n)
def putVal (s : Wt) (t : Int) : Wt := if Ty.val t = true then s.bytes [b8 (Ty.byte t)] else s.fail 12
def putAll (s : Wt) : List Int → Wt
  | [] => s
  | t :: l => putAll (putVal s t) l
def putVals (s : Wt) (l : List Int) : Wt := putAll (putU32 s (l.length : Int)) l
def listErr (l : List Int) : Int := if 8 < l.length then 6 else if l.all Ty.val = true then 0 else 12
def putFunc (s : Wt) (ps rs : List Int) : Wt :=
  if listErr ps = 0 then (if listErr rs = 0 then putVals (putVals (s.bytes [96]) ps) rs else s.fail (listErr rs)) else s.fail (listErr ps)
def limOk (l : Lim) : Bool := Ty.limits l.mn l.mx l.has 4294967295
def putLim (s : Wt) (l : Lim) : Wt :=
  if limOk l = true then (if l.has = true then putU32 (putU32 (s.bytes [1]) l.mn) l.mx else putU32 (s.bytes [0]) l.mn) else s.fail 20
def putTable (s : Wt) (el : Int) (l : Lim) : Wt :=
  if Ty.ref el = true then (if limOk l = true then putLim (putVal s el) l else s.fail 20) else s.fail 12
def putGlobal (s : Wt) (t : Int) (mu : Bool) : Wt := if Ty.val t = true then (putVal s t).bytes [if mu then 1 else 0] else s.fail 12
def blkOk (x : Blk) : Bool := (x.kind == 0 && x.val == 0 && x.idx == 0) || (x.kind == 1 && x.idx == 0 && Ty.val x.val) || (x.kind == 2 && x.val == 0 && decide (0 ≤ x.idx) && decide (x.idx ≤ 4294967295))
def putBlock (s : Wt) (x : Blk) : Wt :=
  if blkOk x = true then (if x.kind = 0 then s.bytes [64] else if x.kind = 1 then putVal s x.val else putS33 s x.idx) else s.fail 12
end Oct
end Go.Proofs.Ytagcildoebicnaa
