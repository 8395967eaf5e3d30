/- An abstract machine for the loaded code, proved sound, part 1 of 5: no conditions. -/
import Derived.WalkKit
import Derived.Laws.OwnMore
import Derived.Below
set_option linter.unusedVariables false
set_option linter.unusedSimpArgs false
set_option linter.unusedSectionVars false
/-! An abstract machine for the loaded code: values as trees, rows of one's own by number, one deterministic order. -/
namespace Go.Proofs.YtfbkfhdlingedaaAm
open Go

inductive PV where
  | sc (v : Value)
  | list (xs : List PV)
  | agg (xs : List PV)
instance : Inhabited PV := ⟨.sc (.bool false)⟩
def PV.toInt : PV → Int | .sc (.int _ n) => n | _ => 0
def PV.toBool : PV → Bool | .sc (.bool b) => b | _ => false
def PV.toStr : PV → ByteArray | .sc (.string s) => s | _ => ByteArray.empty
def PV.toVal : PV → Value | .sc v => v | _ => .bool false
def PV.items : PV → List PV | .list xs => xs | _ => []
def PV.parts : PV → List PV | .agg xs => xs | _ => []
def PV.fld (p : PV) (i : Nat) : PV := p.parts.getD i default
def PV.elem (p : PV) (i : Nat) : PV := p.items.getD i default
inductive Stp where
  | fld (i : Nat)
  | idx (i : Nat)
def PV.at : PV → List Stp → PV
  | p, [] => p
  | p, .fld i :: r => (p.fld i).at r
  | p, .idx j :: r => (p.elem j).at r
def PV.setAt : PV → List Stp → PV → PV
  | _, [], v => v
  | p, .fld i :: r, v => .agg (p.parts.set i ((p.fld i).setAt r v))
  | p, .idx j :: r, v => .list (p.items.set j ((p.elem j).setAt r v))

inductive TK where
  | int (k : IntKind)
  | bool
  | str
  | slice (e : TypeId)
  | struct (fs : List TypeId)
  | other
  | bad
def sizeOf (P : Program) (t : TypeId) : Nat := match P.info? t with
  | some i => i.size
  | none => 0
/-- The fields lie one behind the other. -/
def laid (P : Program) : Nat → List Field → Nat → Bool
  | o, [], n => Nat.beq o n
  | o, f :: r, n => Nat.beq f.offset o && laid P (o + sizeOf P f.type) r n
/-- Rows of this element can be made and grown. -/
def elemOk (P : Program) (e : TypeId) : Bool := match P.info? e with
  | some i => Nat.blt 0 i.size && Nat.blt 0 i.bytes && (match i.zero with | some z => Nat.beq z.cells.size i.size | none => false)
  | none => false
/-- An array: how many, of what. -/
def arrOf (P : Program) (t : TypeId) : Option (Nat × TypeId) := match P.underlying t with
  | some (.array n e) => some (n, e)
  | _ => none
def intTy (P : Program) (e : TypeId) : Option IntKind := match P.underlying e with
  | some (.int k) => some k
  | _ => none
def isArr (P : Program) (t : TypeId) : Bool := match arrOf P t with | some _ => true | none => false
/-- Arrays of whole numbers are taken. -/
def arrFit (P : Program) (t : TypeId) (n : Nat) (e : TypeId) : Bool := Nat.beq (sizeOf P t) n && Nat.beq (sizeOf P e) 1 && (match intTy P e with | some _ => true | none => false)
def tk (P : Program) (t : TypeId) : TK := match P.underlying t with
  | some (.int k) => bif Nat.beq (sizeOf P t) 1 then .int k else .bad
  | some .bool => bif Nat.beq (sizeOf P t) 1 then .bool else .bad
  | some .string => bif Nat.beq (sizeOf P t) 1 then .str else .bad
  | some (.slice e) => bif Nat.beq (sizeOf P t) 1 && elemOk P e then .slice e else .bad
  | some (.struct fs) => bif laid P 0 fs.toList (sizeOf P t) then .struct (fs.toList.map (·.type)) else .bad
  | some (.array n e) => bif arrFit P t n e then .struct (List.replicate n e) else .bad
  | some _ => bif Nat.beq (sizeOf P t) 1 then .other else .bad
  | none => .bad
def listEq : List Nat → List Nat → Bool
  | [], [] => true
  | a :: r, b :: s => Nat.beq a b && listEq r s
  | _, _ => false
def TK.same : TK → TK → Bool
  | .int j, .int k => decide (j = k)
  | .bool, .bool | .str, .str => true
  | .slice a, .slice b => Nat.beq a b
  | .struct a, .struct b => listEq a b
  | _, _ => false
/-- Types of one build. -/
def alike (P : Program) (t u : TypeId) : Bool := (tk P t).same (tk P u)

inductive SV where
  | junk
  | undef
  | nil
  | sc (v : Value)
  | ro (t : TypeId) (pv : PV)
  /-- the slice value of that number, which does not change -/
  | con (tag : Nat) (t : TypeId) (pv : PV)
  | ref (id : Nat) (path : List Stp)
  | view (id : Nat) (path : List Stp) (lo hi : Nat)
  | ptr (id : Nat) (path : List Stp)
  | rop (t : TypeId) (pv : PV)
  | agg (t : TypeId) (xs : List SV)
  /-- an array of whole numbers of that kind -/
  | arr (t : TypeId) (k : IntKind) (pv : PV)
  /-- a value of an interface: nil, if b is false; else one that is not nil -/
  | err (b : Bool)
  | tup (xs : List SV)
instance : Inhabited SV := ⟨.junk⟩
inductive Own where
  /-- no number yet -/
  | free
  /-- given away -/
  | dead
  | row (t : TypeId) (pv : PV)
  | box (t : TypeId) (sv : SV)
  /-- a row out of which, at that place, an inner row was taken -/
  | hole (t : TypeId) (pv : PV) (p : List Stp)
  /-- a row of one's own whose elements lead to what is only read -/
  | shl (t : TypeId) (ps : List PV)
structure St where
  slots : List SV
  oh : Nat → Own
def upd (h : Nat → Own) (id : Nat) (o : Own) : Nat → Own := fun i => bif Nat.beq i id then o else h i
def ohOf (l : List Own) : Nat → Own := fun i => l.getD i .free
mutual
def idsOf : SV → List Nat
  | .ref id _ => [id]
  | .view id _ _ _ => [id]
  | .ptr id _ => [id]
  | .agg _ xs => idsOfL xs
  | .tup xs => idsOfL xs
  | _ => []
def idsOfL : List SV → List Nat
  | [] => []
  | x :: r => idsOf x ++ idsOfL r
end
def SV.parts : SV → List SV | .agg _ xs => xs | _ => []
def SV.aggType : SV → TypeId | .agg t _ => t | _ => 0
def SV.part (x : SV) (i : Nat) : SV := match x with
  | .arr _ k pv => .sc (.int k (pv.fld i).toInt)
  | x => x.parts.getD i .junk
def SV.toPV : SV → PV | .sc v => .sc v | _ => default
def SV.at : SV → List Stp → SV
  | x, [] => x
  | x, .fld i :: r => (x.part i).at r
  | _, _ => .junk
def SV.setPart (x : SV) (i : Nat) (v : SV) : SV := match x with
  | .arr t k pv => .arr t k (.agg (pv.parts.set i v.toPV))
  | x => .agg x.aggType (x.parts.set i v)
def SV.setAt : SV → List Stp → SV → SV
  | _, [], v => v
  | x, .fld i :: r, v => x.setPart i ((x.part i).setAt r v)
  | x, _, _ => x
/-- Into an array only whole numbers of its kind. -/
def setOk (x : SV) (p : List Stp) (y : SV) : Bool := match p with
  | [] => true
  | .fld i :: r => match x with
    | .arr _ k _ => (match r, y with
      | [], .sc (.int k' _) => if k = k' then true else false
      | _, _ => false)
    | x => setOk (x.part i) r y
  | _ => true
def St.put (σ : St) (d : Option Tmp) (x : SV) : St := match d with
  | some d => { σ with slots := σ.slots.set d x }
  | none => σ
def evc : Value → SV
  | .slice none 0 0 => .nil
  | v => bif v.oneCell' then .sc v else .junk
def St.ev (σ : St) : Operand → SV
  | .tmp t => σ.slots.getD t .junk
  | .const v => evc v
  | .func f => .sc (.func (.func f) #[] #[])
  | _ => .junk

/-! Types along a path -/
def ftype (P : Program) (t : TypeId) (i : Nat) : TypeId := match arrOf P t with
  | some (_, e) => e
  | none => match tk P t with
    | .struct fs => fs.getD i 0
    | _ => 0
def etype (P : Program) (t : TypeId) : TypeId := match tk P t with
  | .slice e => e
  | _ => 0
def tyAt (P : Program) : TypeId → List Stp → TypeId
  | t, [] => t
  | t, .fld i :: r => tyAt P (ftype P t i) r
  | t, .idx _ :: r => tyAt P (etype P t) r
def lim (P : Program) (e : TypeId) : Nat := match P.info? e with
  | some i => 140737488355328 / i.bytes
  | none => 0
def limMake (P : Program) (e : TypeId) : Nat := match P.info? e with
  | some i => 281474976710656 / i.bytes
  | none => 0

/-! Trees into slots, and back -/
def fieldsRo (f : TypeId → PV → SV) : List TypeId → PV → Nat → List SV
  | [], _, _ => []
  | t :: r, pv, i => f t (pv.fld i) :: fieldsRo f r pv (i + 1)
def reifyRo (P : Program) : Nat → TypeId → PV → SV
  | 0, _, _ => .junk
  | n + 1, t, pv => match tk P t with
    | .int k => .sc (.int k pv.toInt)
    | .bool => .sc (.bool pv.toBool)
    | .str => .sc (.string pv.toStr)
    | .slice _ => .ro t pv
    | .struct fs => .agg t (fieldsRo (reifyRo P n) fs pv 0)
    | .other => .sc pv.toVal
    | .bad => .junk
def fieldsRef (f : TypeId → PV → List Stp → SV) : List TypeId → PV → List Stp → Nat → List SV
  | [], _, _, _ => []
  | t :: r, pv, p, i => f t (pv.fld i) (p ++ [.fld i]) :: fieldsRef f r pv p (i + 1)
def reifyRef (P : Program) (id : Nat) : Nat → TypeId → PV → List Stp → SV
  | 0, _, _, _ => .junk
  | n + 1, t, pv, p => match tk P t with
    | .int k => .sc (.int k pv.toInt)
    | .bool => .sc (.bool pv.toBool)
    | .str => .sc (.string pv.toStr)
    | .slice _ => .ref id p
    | .struct fs => .agg t (fieldsRef (reifyRef P id n) fs pv p 0)
    | .other => .sc pv.toVal
    | .bad => .junk
/-- What a call gives back as one's own: rows from number fr on. -/
def fieldsAdopt (f : TypeId → PV → Nat → SV × List (Nat × Own)) : List TypeId → PV → Nat → Nat → List SV × List (Nat × Own)
  | [], _, _, _ => ([], [])
  | t :: r, pv, i, fr => let a := f t (pv.fld i) fr; let b := fieldsAdopt f r pv (i + 1) (fr + a.2.length); (a.1 :: b.1, a.2 ++ b.2)
def adopt (P : Program) : Nat → TypeId → PV → Nat → SV × List (Nat × Own)
  | 0, _, _, _ => (.junk, [])
  | n + 1, t, pv, fr => match tk P t with
    | .int k => (.sc (.int k pv.toInt), [])
    | .bool => (.sc (.bool pv.toBool), [])
    | .str => (.sc (.string pv.toStr), [])
    | .slice _ => (.ref fr [], [(fr, .row t pv)])
    | .struct fs => let r := fieldsAdopt (adopt P n) fs pv 0 fr; (.agg t r.1, r.2)
    | .other => (.sc pv.toVal, [])
    | .bad => (.junk, [])
/-! Read as a tree of type t. -/
mutual
def contT (P : Program) (h : Nat → Own) : TypeId → SV → Option PV
  | t, .sc v => match tk P t, v with
    | .int k, .int k' n => if k = k' then some (.sc (.int k n)) else none
    | .bool, .bool b => some (.sc (.bool b))
    | .str, .string s => some (.sc (.string s))
    | .other, v => some (.sc v)
    | _, _ => none
  | t, .nil => match tk P t with
    | .slice _ => some (.list [])
    | _ => none
  | t, .ro u pv => bif alike P t u then some pv else none
  | t, .con _ u pv => bif alike P t u then some pv else none
  | t, .ref id p => match tk P t, h id with
    | .slice _, .row u pv => bif alike P t (tyAt P u p) then some (pv.at p) else none
    | .slice _, .shl u ps => (match p with | [] => bif alike P t u then some (.list ps) else none | _ => none)
    | _, _ => none
  | t, .view id p lo hi => match tk P t, h id with
    | .slice _, .row u pv => bif alike P t (tyAt P u p) then some (.list (((pv.at p).items.drop lo).take (hi - lo))) else none
    | .slice _, .shl u ps => (match p with | [] => bif alike P t u then some (.list ((ps.drop lo).take (hi - lo))) else none | _ => none)
    | _, _ => none
  | t, .agg u xs => match tk P t with
    | .struct fs => bif alike P t u then (match contTL P h fs xs with | some ps => some (.agg ps) | none => none) else none
    | _ => none
  | t, .arr u _ pv => match tk P t with
    | .struct _ => bif alike P t u then some pv else none
    | _ => none
  | _, _ => none
termination_by structural _ x => x
def contTL (P : Program) (h : Nat → Own) : List TypeId → List SV → Option (List PV)
  | [], [] => some []
  | f :: fs, x :: xs => match contT P h f x, contTL P h fs xs with
    | some p, some ps => some (p :: ps)
    | _, _ => none
  | _, _ => none
termination_by structural _ xs => xs
end
/-- Nothing of this type leads into memory. -/
def flat (P : Program) : Nat → TypeId → Bool
  | 0, _ => false
  | n + 1, t => match tk P t with
    | .int _ | .bool | .str => true
    | .struct fs => fs.all (flat P n)
    | _ => false
/-! Taken over as a tree of type t: with the numbers of the rows that are in it. -/
mutual
def takeT (P : Program) (h : Nat → Own) : TypeId → SV → Option (PV × List Nat)
  | t, .sc v => match tk P t, v with
    | .int k, .int k' n => if k = k' then some (.sc (.int k n), []) else none
    | .bool, .bool b => some (.sc (.bool b), [])
    | .str, .string s => some (.sc (.string s), [])
    | .other, v => some (.sc v, [])
    | _, _ => none
  | t, .nil => match tk P t with
    | .slice _ => some (.list [], [])
    | _ => none
  | t, .ref id [] => match tk P t, h id with
    | .slice _, .row u pv => bif alike P t u then some (pv, [id]) else none
    | _, _ => none
  | t, .view id [] lo hi => match tk P t, h id with
    | .slice e, .row u pv => bif Nat.beq lo 0 && alike P t u && flat P 8 e then some (.list (pv.items.take hi), [id]) else none
    | _, _ => none
  | t, .agg u xs => match tk P t with
    | .struct fs => bif alike P t u then (match takeTL P h fs xs with | some (ps, l) => some (.agg ps, l) | none => none) else none
    | _ => none
  | t, .arr u _ pv => match tk P t with
    | .struct _ => bif alike P t u then some (pv, []) else none
    | _ => none
  | _, _ => none
termination_by structural _ x => x
def takeTL (P : Program) (h : Nat → Own) : List TypeId → List SV → Option (List PV × List Nat)
  | [], [] => some ([], [])
  | f :: fs, x :: xs => match takeT P h f x, takeTL P h fs xs with
    | some (p, l), some (ps, m) => some (p :: ps, l ++ m)
    | _, _ => none
  | _, _ => none
termination_by structural _ xs => xs
end
/-- The cells of a zero value. -/
def parseL (P : Program) (f : TypeId → List Value → Option SV) : List TypeId → List Value → Option (List SV)
  | [], [] => some []
  | t :: fs, cs => match f t (cs.take (sizeOf P t)), parseL P f fs (cs.drop (sizeOf P t)) with
    | some x, some xs => some (x :: xs)
    | _, _ => none
  | _, _ => none
def parse (P : Program) : Nat → TypeId → List Value → Option SV
  | 0, _, _ => none
  | n + 1, t, cs => match tk P t, cs with
    | .int k, [.int k' z] => if k = k' then some (.sc (.int k z)) else none
    | .bool, [.bool b] => some (.sc (.bool b))
    | .str, [.string s] => some (.sc (.string s))
    | .slice _, [.slice none 0 0] => some .nil
    | .struct fs, cs => match parseL P (parse P n) fs cs with | some xs => some (.agg t xs) | none => none
    | .other, [v] => some (.sc v)
    | _, _ => none
def zeroSV (P : Program) (t : TypeId) : Option SV := match P.info? t with
  | some i => match i.zero with
    | some z => bif z.cells.toList.all (·.oneCell') then parse P 8 t z.cells.toList else none
    | none => none
  | none => none
def noRef : Nat → Own := fun _ => .dead
def zeroPV (P : Program) (t : TypeId) : Option PV := match zeroSV P t with
  | some x => match idsOf x, takeT P noRef t x with
    | [], some (p, []) => some p
    | _, _ => none
  | none => none
/-- A value that a variable of this type may hold: for a struct its cells must be of that build. -/
def fits (P : Program) (t : TypeId) : SV → Bool
  | .agg u _ => alike P t u
  | .arr u _ _ => alike P t u
  | .junk | .undef | .tup _ => false
  | _ => match tk P t with
    | .struct _ | .bad => false
    | _ => true

/-- An array of whole numbers as one tree. -/
def toArr (P : Program) (t : TypeId) (z : SV) : SV := match arrOf P t with
  | some (_, e) => (match intTy P e, idsOf z, contT P noRef t z with
    | some k, [], some pv => .arr t k pv
    | _, _, _ => z)
  | none => z
/-- The package-level variables whose contents are known: type and tree, by number. -/
class Gl (P : Program) where
  gl : Nat → Option (TypeId × PV)
/-! Operations -/
abbrev Res := List PV
structure Eff where
  val : SV
  ws : List (Nat × Own)
  wi : List Nat
  /-- Rows whose inner rows may have turned: what leads through them is forgotten. -/
  stale : List Nat
def maxI (a b : Int) : Int := if b > a then b else a
def minI (a b : Int) : Int := if b < a then b else a
def bAnd (k : IntKind) (a b : Int) : Int := k.wrap (BitVec.ofInt k.bits a &&& BitVec.ofInt k.bits b).toNat
def bOr (k : IntKind) (a b : Int) : Int := k.wrap (BitVec.ofInt k.bits a ||| BitVec.ofInt k.bits b).toNat
def bXor (k : IntKind) (a b : Int) : Int := k.wrap (BitVec.ofInt k.bits a ^^^ BitVec.ofInt k.bits b).toNat
def bAndNot (k : IntKind) (a b : Int) : Int := k.wrap (BitVec.ofInt k.bits a &&& ~~~ BitVec.ofInt k.bits b).toNat
def shlI (k : IntKind) (a b : Int) : Int := k.wrap (a * 2 ^ (min b.toNat k.bits))
def shrI (k : IntKind) (a b : Int) : Int := a.fdiv (2 ^ (min b.toNat k.bits))
/-- A text's bytes; a text of bytes. -/
def bytesL (s : ByteArray) : List PV := s.data.toList.map fun b => .sc (.int .u8 b.toNat)
def bytesOfL (l : List PV) : ByteArray := ⟨(l.map fun p => UInt8.ofNat p.toInt.toNat).toArray⟩
def intOp {α : Type} (op : BinOp) (k : IntKind) (a b : Int) (f : Value → Option α) : Option α := match op with
  | .add => f (.int k (k.wrap (a + b)))
  | .sub => f (.int k (k.wrap (a - b)))
  | .mul => f (.int k (k.wrap (a * b)))
  | .quo => if b = 0 then none else f (.int k (k.wrap (a.tdiv b)))
  | .rem => if b = 0 then none else f (.int k (a.tmod b))
  | .eql => f (.bool (decide (a = b)))
  | .neq => f (.bool (!decide (a = b)))
  | .lss => f (.bool (decide (a < b)))
  | .leq => f (.bool (decide (a ≤ b)))
  | .gtr => f (.bool (decide (b < a)))
  | .geq => f (.bool (decide (b ≤ a)))
  | .and => f (.int k (bAnd k a b))
  | .or => f (.int k (bOr k a b))
  | .xor => f (.int k (bXor k a b))
  | .andNot => f (.int k (bAndNot k a b))
  | _ => none
def strOp {α : Type} (op : BinOp) (a b : ByteArray) (f : Value → Option α) : Option α := match op with
  | .add => if a.size + b.size ≤ 9223372036854775807 then f (.string (a ++ b)) else none
  | .eql => f (.bool (decide (a.toList = b.toList)))
  | .neq => f (.bool (!decide (a.toList = b.toList)))
  | .lss => f (.bool (Op.bytesLess a.toList b.toList))
  | .geq => f (.bool (!Op.bytesLess a.toList b.toList))
  | .gtr => f (.bool (!(Op.bytesLess a.toList b.toList || decide (a.toList = b.toList))))
  | .leq => f (.bool (Op.bytesLess a.toList b.toList || decide (a.toList = b.toList)))
  | _ => none
def binK {α : Type} (P : Program) (t : TypeId) (op : BinOp) (x y : SV) (f : Value → Option α) : Option α := match x, y with
  | .sc (.int k a), .sc (.int k' b) => match op with
    | .shl => if 0 ≤ b then f (.int k (shlI k a b)) else none
    | .shr => if 0 ≤ b then f (.int k (shrI k a b)) else none
    | op => if k = k' then intOp op k a b f else none
  | .sc (.string a), .sc (.string b) => strOp op a b f
  | .sc (.bool a), .sc (.bool b) => match op, tk P t with
    | .eql, .bool => f (.bool (a == b))
    | .neq, .bool => f (.bool (a != b))
    | _, _ => none
  | _, _ => none
/-! Structs of plain values, compared. -/
def eqOk (P : Program) (t : TypeId) : Bool := !P.stoodInHeld t && (!P.eqGuardType P.depth t && (match P.underlying t with | some (.struct gs) => gs.toList.all fun f => f.name != "_" | _ => false))
def eqSc {α : Type} (P : Program) (t : TypeId) (x y : SV) (f : Bool → Option α) : Option α := match tk P t, x, y with
  | .int _, .sc (.int k a), .sc (.int k' b) => if k = k' then f (decide (a = b)) else none
  | .str, .sc (.string a), .sc (.string b) => f (decide (a.toList = b.toList))
  | .bool, .sc (.bool a), .sc (.bool b) => f (a == b)
  | _, _, _ => none
def eqFl {α : Type} (P : Program) : List TypeId → List SV → List SV → (Bool → Option α) → Option α
  | [], [], [], f => f true
  | t :: ts, x :: xs, y :: ys, f => eqSc P t x y fun p => eqFl P ts xs ys fun q => f (p && q)
  | _, _, _, _ => none
def eqS {α : Type} (P : Program) (op : BinOp) (t u u' : TypeId) (xs ys : List SV) (f : Value → Option α) : Option α := match tk P t with
  | .struct fs => cond (eqOk P t && (alike P t u && alike P t u')) (match op with
    | .eql => eqFl P fs xs ys fun b => f (.bool b)
    | .neq => eqFl P fs xs ys fun b => f (.bool !b)
    | _ => none) none
  | _ => none
def eBin {α : Type} (P : Program) (op : BinOp) (t : TypeId) (x y : SV) (f : Value → Option α) : Option α := match x, y with
  | .agg u xs, .agg u' ys => eqS P op t u u' xs ys f
  | x, y => binK P t op x y f
def nilC {α : Type} (l : List PV) (a : α) (b : PV → List PV → α) : α := match l with
  | [] => a
  | x :: r => b x r
/-- A row that is not empty, compared with nil. -/
def eRowNil {α : Type} (h : Nat → Own) (id : Nat) (b : Bool) (f : Value → Option α) : Option α := match h id with
  | .row _ pv => nilC pv.items none fun _ _ => f (.bool b)
  | _ => none
/-- An interface's value, or a slice, compared with nil. -/
def eBinO {α : Type} (P : Program) (h : Nat → Own) (op : BinOp) (t : TypeId) (z : Operand) (x y : SV) (f : Value → Option α) : Option α := match x, z with
  | .err b, .const .nilIface => (match P.underlying t, op with
    | some (.interface _), .eql => f (.bool !b)
    | some (.interface _), .neq => f (.bool b)
    | _, _ => none)
  | .nil, .const (.slice none 0 0) => (match tk P t, op with
    | .slice _, .eql => f (.bool true)
    | .slice _, .neq => f (.bool false)
    | _, _ => none)
  | .ref id [], .const (.slice none 0 0) => (match tk P t, op with
    | .slice _, .eql => eRowNil h id false f
    | .slice _, .neq => eRowNil h id true f
    | _, _ => none)
  | x, _ => eBin P op t x y f
def unK {α : Type} (op : UnOp) (x : SV) (f : Value → Option α) : Option α := match op, x with
  | .not, .sc (.bool b) => f (.bool !b)
  | .neg, .sc (.int k n) => f (.int k (k.wrap (0 - n)))
  | .xor, .sc (.int k n) => f (.int k (bXor k (if k.signed then -1 else k.max) n))
  | _, _ => none
inductive Mode where
  | ro | own | mut | box
  /-- a struct of two slices, both lent to be written -/
  | mut2
  /-- a struct all of whose rows are lent to be written -/
  | muts
inductive RMode where
  | val | own | box
  /-- nothing is said of it -/
  | any
  /-- an interface: whether it is nil -/
  | err
  /-- a row of one's own, nil if it is empty -/
  | nown
  /-- a row that is only read from now on, made of old rows and new ones -/
  | shr
structure ASpec where
  params : List (TypeId × Mode)
  res : List (TypeId × RMode)
  den : List PV → Option (List PV)
def unCon : SV → SV
  | .con _ t pv => .ro t pv
  | x => x
def ptee (P : Program) (t : TypeId) : Option TypeId := match P.underlying t with
  | some (.pointer e) => some e
  | _ => none
def isNil : List Nat → Bool | [] => true | _ => false
/-- A struct of two rows, both lent. -/
def arg2 (P : Program) (h : Nat → Own) (t : TypeId) (x : SV) : Option (PV × List (Nat × List Stp)) := match x, tk P t with
  | .agg u [.ref i p, .ref j q], .struct [t1, t2] => (match h i, h j, tk P t1, tk P t2 with
    | .row u1 v1, .row u2 v2, .slice _, .slice _ => bif alike P t u && (alike P t1 (tyAt P u1 p) && alike P t2 (tyAt P u2 q)) then some (.agg [v1.at p, v2.at q], [(i, p), (j, q)]) else none
    | _, _, _, _ => none)
  | _, _ => none
/-- A struct whose rows are lent, all of them. -/
def lendFs (f : TypeId → SV → Option (PV × List (Nat × List Stp))) : List TypeId → List SV → Option (List PV × List (Nat × List Stp))
  | [], [] => some ([], [])
  | t :: ts, x :: xs => match f t x, lendFs f ts xs with
    | some (p, m), some (ps, m') => some (p :: ps, m ++ m')
    | _, _ => none
  | _, _ => none
def lendT (P : Program) (h : Nat → Own) : Nat → TypeId → SV → Option (PV × List (Nat × List Stp))
  | 0, _, _ => none
  | n + 1, t, x => match tk P t, x with
    | .slice _, .ref i p => (match h i with
      | .row u v => bif alike P t (tyAt P u p) then some (v.at p, [(i, p)]) else none
      | _ => none)
    | .struct fs, .agg u xs => bif alike P t u then (match lendFs (lendT P h n) fs xs with
      | some (ps, m) => some (.agg ps, m)
      | none => none) else none
    | .int k, .sc (.int k' a) => if k = k' then some (.sc (.int k a), []) else none
    | .bool, .sc (.bool a) => some (.sc (.bool a), [])
    | .str, .sc (.string a) => some (.sc (.string a), [])
    | _, _ => none
def lendS (P : Program) (h : Nat → Own) (t : TypeId) (x : SV) : Option (PV × List (Nat × List Stp)) := match tk P t with
  | .struct _ => lendT P h 8 t x
  | _ => none
/-- The types of a struct's rows, in order. -/
def leavesT (P : Program) : Nat → TypeId → List (Bool × TypeId)
  | 0, _ => []
  | n + 1, t => match tk P t with
    | .slice _ => [(false, t)]
    | .struct fs => fs.flatMap (leavesT P n)
    | _ => []
/-- A call's arguments: the trees; the rows that die; the rows that are lent to be written. -/
def argsOf (P : Program) (h : Nat → Own) : List (TypeId × Mode) → List SV → Option (List PV × List Nat × List (Nat × List Stp))
  | [], [] => some ([], [], [])
  | (t, .ro) :: ms, x :: xs => match contT P h t x, argsOf P h ms xs with
    | some p, some (ps, l, m) => some (p :: ps, l, m)
    | _, _ => none
  | (t, .own) :: ms, x :: xs => match takeT P h t x, argsOf P h ms xs with
    | some (p, q), some (ps, l, m) => some (p :: ps, q ++ l, m)
    | _, _ => none
  | (t, .mut) :: ms, .ref id p :: xs => match tk P t, h id, argsOf P h ms xs with
    | .slice _, .row u pv, some (ps, l, m) => bif alike P t (tyAt P u p) then some (pv.at p :: ps, l, (id, p) :: m) else none
    | _, _, _ => none
  | (t, .box) :: ms, .ptr id [] :: xs => match ptee P t, h id, argsOf P h ms xs with
    | some u, .box u' sv, some (ps, l, m) => bif Nat.beq u u' && isNil (idsOf sv) && Nat.blt (sizeOf P u) 4096 then (match contT P h u sv with | some pv => some (pv :: ps, l, (id, []) :: m) | none => none) else none
    | _, _, _ => none
  | (t, .mut2) :: ms, x :: xs => match arg2 P h t x, argsOf P h ms xs with
    | some (p, m1), some (ps, l, m) => some (p :: ps, l, m1 ++ m)
    | _, _ => none
  | (t, .muts) :: ms, x :: xs => match lendS P h t x, argsOf P h ms xs with
    | some (p, m1), some (ps, l, m) => some (p :: ps, l, m1 ++ m)
    | _, _ => none
  | _, _ => none
def roIds : List (TypeId × Mode) → List SV → List Nat
  | (_, .ro) :: ms, x :: xs => idsOf x ++ roIds ms xs
  | _ :: ms, _ :: xs => roIds ms xs
  | _, _ => []
def memB (l : List Nat) (a : Nat) : Bool := l.any (Nat.beq a)
def disj (a b : List Nat) : Bool := a.all fun x => !memB b x
def rowFlat (P : Program) : Own → Bool
  | .row t _ => flat P 8 (etype P t)
  | _ => true
def keepFs (f : TypeId → SV → PV → SV) : List TypeId → List SV → PV → Nat → List SV
  | [], _, _, _ => []
  | t :: r, xs, pv, i => f t (xs.headD .junk) (pv.fld i) :: keepFs f r xs.tail pv (i + 1)
/-- A box lent, behind the call: its slices are what they were. -/
def keepRo (P : Program) : Nat → TypeId → SV → PV → SV
  | 0, _, _, _ => .junk
  | n + 1, t, x, pv => match tk P t with
    | .slice _ => x
    | .struct fs => .agg t (keepFs (keepRo P n) fs x.parts pv 0)
    | _ => reifyRo P 1 t pv
/-- The rows and boxes lent, with what the call leaves in them. -/
def wrote (P : Program) (h : Nat → Own) : List (Nat × List Stp) → List PV → List (Nat × Own)
  | (id, p) :: l, outs => match h id with
    | .row u pv => (id, .row u (pv.setAt p (outs.headD default))) :: wrote P h l outs.tail
    | .box u sv => (id, .box u (keepRo P 8 u sv (outs.headD default))) :: wrote P h l outs.tail
    | _ => []
  | [], _ => []
/-- What lies behind the results. -/
def dropRes {α β : Type} : List β → List α → List α
  | [], l => l
  | _ :: r, l => dropRes r l.tail
def resultsOf (P : Program) : List (TypeId × RMode) → List PV → Nat → List SV × List (Nat × Own)
  | [], _, _ => ([], [])
  | (t, .val) :: rs, outs, fr => let r := resultsOf P rs outs.tail fr; ((bif flat P 8 t then reifyRo P 8 t (outs.headD default) else .junk) :: r.1, r.2)
  | (t, .own) :: rs, outs, fr => let a := adopt P 8 t (outs.headD default) fr; let r := resultsOf P rs outs.tail (fr + a.2.length); (a.1 :: r.1, a.2 ++ r.2)
  | (t, .nown) :: rs, outs, fr => nilC (outs.headD default).items (let r := resultsOf P rs outs.tail fr; (.nil :: r.1, r.2)) fun x xs => let a := adopt P 8 t (.list (x :: xs)) fr; let r := resultsOf P rs outs.tail (fr + a.2.length); (a.1 :: r.1, a.2 ++ r.2)
  | (t, .box) :: rs, outs, fr => let u := (ptee P t).getD 0; let r := resultsOf P rs outs.tail (fr + 1); (.ptr fr [] :: r.1, (fr, .box u (reifyRo P 8 u (outs.headD default))) :: r.2)
  | (_, .any) :: rs, outs, fr => let r := resultsOf P rs outs.tail fr; (.junk :: r.1, r.2)
  | (t, .shr) :: rs, outs, fr => let r := resultsOf P rs outs.tail fr; (reifyRo P 8 t (outs.headD default) :: r.1, r.2)
  | (_, .err) :: rs, outs, fr => let r := resultsOf P rs outs.tail fr; (.err (outs.headD default).toBool :: r.1, r.2)
/-- A row that may be nil: split. -/
def nilCase {α : Type} (res : List (TypeId × RMode)) (outs : List PV) (f : List PV → Option α) : Option α := match res with
  | [(_, .nown)] => nilC (outs.headD default).items (f (.list [] :: outs.tail)) fun x xs => f (.list (x :: xs) :: outs.tail)
  | _ => f outs
def boxRes : List (TypeId × RMode) → Bool
  | [] => false
  | (_, .box) :: _ => true
  | _ :: r => boxRes r
def hasShr : List (TypeId × RMode) → Bool
  | [] => false
  | (_, .shr) :: _ => true
  | _ :: r => hasShr r
def oneRes : List (TypeId × RMode) → Bool
  | [_] => true
  | _ => false
def allRo : List (TypeId × Mode) → Bool
  | [] => true
  | (_, .ro) :: r => allRo r
  | _ => false
def nodupB : List Nat → Bool
  | [] => true
  | a :: r => !(r.any (Nat.beq a)) && nodupB r
def freeAll (h : Nat → Own) (ws : List (Nat × Own)) : Bool := ws.all fun w => match h w.1 with | .free => true | _ => false
def partsInOrder : Nat → List (Nat × Operand) → Bool
  | _, [] => true
  | i, (j, _) :: r => Nat.beq i j && partsInOrder (i + 1) r
def setParts : List SV → List Nat → List SV → List SV
  | xs, i :: is, v :: vs => setParts (xs.set i v) is vs
  | xs, _, _ => xs
def fitsAll (P : Program) (fs : List TypeId) : List Nat → List SV → Bool
  | i :: is, v :: vs => Nat.blt i fs.length && fits P (fs.getD i 0) v && fitsAll P fs is vs
  | [], [] => true
  | _, _ => false
def retSV : List SV → SV
  | [x] => x
  | ys => .tup ys
def opnds : Op → List Operand
  | .move x | .assign x => [x]
  | .pick c a b => [c, a, b]
  | .binOp _ _ x y _ => [x, y]
  | .unOp _ _ x => [x]
  | .convert _ _ x => [x]
  | .index _ x i => [x, i]
  | .indexAddr _ x i => [x, i]
  | .fieldAddr _ x _ => [x]
  | .field _ x _ => [x]
  | .nilCheck x => [x]
  | .load _ x => [x]
  | .store _ x y => [x, y]
  | .box _ x => [x]
  | .build _ ps => ps.toList.map (·.2)
  | .buildSlice _ _ ps => ps.toList.map (·.2)
  | .makeSlice _ n c => [n, c]
  | .extract x _ => [x]
  | .slice _ x lo hi mx => x :: (lo.toList ++ hi.toList ++ mx.toList)
  | .call c => c.args.toList
  | _ => []
def freshOf (o : Oper) (fr : Nat) : List Nat := match o.op with
  | .alloc _ | .box _ _ | .buildSlice _ _ _ | .makeSlice _ _ _ | .convert _ _ _ => [fr]
  | .call _ => [fr, fr + 1, fr + 2, fr + 3, fr + 4, fr + 5, fr + 6, fr + 7]
  | _ => []
/-- What an operation looks at: a move looks at nothing. -/
def idsFor (o : Oper) (fr : Nat) (xs : List SV) : List Nat := match o.op with
  | .move _ | .assign _ => []
  | _ => freshOf o fr ++ idsOfL xs
/-- The bounds of a slice expression over length n. -/
def boundsK {α : Type} (lo hi : Option Operand) (rest : List SV) (n : Int) (f : Nat → Nat → Option α) : Option α := match lo, hi, rest with
  | none, none, [] => f 0 n.toNat
  | some _, none, [.sc (.int _ l)] => if 0 ≤ l then (if l ≤ n then f l.toNat n.toNat else none) else none
  | none, some _, [.sc (.int _ h)] => if 0 ≤ h then (if h ≤ n then f 0 h.toNat else none) else none
  | some _, some _, [.sc (.int _ l), .sc (.int _ h)] => if 0 ≤ l then (if l ≤ h then (if h ≤ n then f l.toNat h.toNat else none) else none) else none
  | _, _, _ => none
section
variable {α : Type} (P : Program) (h : Nat → Own) (k : Eff → Option α)
def ePick : SV → SV → SV → Option α
  | .sc (.bool c), a, b => if c = true then k ⟨a, [], [], []⟩ else k ⟨b, [], [], []⟩
  | _, _, _ => none
def eConvert (fr : Nat) (src dst : TypeId) (x : SV) : Option α := match tk P src, tk P dst with
  | .int _, .int k2 => match x with
    | .sc (.int _ n) => k ⟨.sc (.int k2 (k2.wrap n)), [], [], []⟩
    | _ => none
  | .str, .str => match x with
    | .sc (.string s) => k ⟨.sc (.string s), [], [], []⟩
    | _ => none
  | .slice e, .str => match tk P e with
    | .int .u8 => match contT P h src x with
      | some v => k ⟨.sc (.string (bytesOfL v.items)), [], [], []⟩
      | none => none
    | _ => none
  | .str, .slice e => match x, tk P e, h fr with
    | .sc (.string s), .int .u8, .free => if s.size ≤ 9223372036854775807 then k ⟨.ref fr [], [(fr, .row dst (.list (bytesL s)))], [fr], []⟩ else none
    | _, _, _ => none
  | _, _ => none
def eIndexV (t u : TypeId) (kd : IntKind) (pv : PV) (i : SV) : Option α := match i, arrOf P t with
  | .sc (.int _ j), some (n, _) => bif alike P t u && isArr P u then (if 0 ≤ j then (if j < (n : Int) then k ⟨.sc (.int kd (pv.fld j.toNat).toInt), [], [], []⟩ else none) else none) else none
  | _, _ => none
def eIndexS (t : TypeId) : SV → SV → Option α
  | .sc (.string s), .sc (.int _ j) => match tk P t with
    | .str => if 0 ≤ j then (if j < (s.size : Int) then k ⟨.sc (.int .u8 (s.get! j.toNat).toNat), [], [], []⟩ else none) else none
    | _ => none
  | _, _ => none
def eIndex (t : TypeId) (x i : SV) : Option α := match x with
  | .arr u kd pv => eIndexV P k t u kd pv i
  | x => eIndexS P k t x i
def eIndexArr (t : TypeId) (n : Nat) (e : TypeId) (x i : SV) : Option α := match x, i with
  | .ptr id p, .sc (.int _ j) => (match h id with
    | .row u _ => bif alike P t (tyAt P u p) && isArr P (tyAt P u p) then (if 0 ≤ j then (if j < (n : Int) then k ⟨.ptr id (p ++ [.fld j.toNat]), [], [], []⟩ else none) else none) else none
    | .box u _ => bif alike P t (tyAt P u p) && isArr P (tyAt P u p) then (if 0 ≤ j then (if j < (n : Int) then k ⟨.ptr id (p ++ [.fld j.toNat]), [], [], []⟩ else none) else none) else none
    | _ => none)
  | .rop u pv, .sc (.int _ j) => bif alike P t u && isArr P u then (if 0 ≤ j then (if j < (n : Int) then k ⟨.rop e (pv.fld j.toNat), [], [], []⟩ else none) else none) else none
  | _, _ => none
def eIndexAddrS (t : TypeId) (x i : SV) : Option α := match tk P t with
  | .slice e => (match x, i with
    | .ref id p, .sc (.int _ j) => match h id with
      | .row u pv => bif alike P t (tyAt P u p) then (if 0 ≤ j then (if j < ((pv.at p).items.length : Int) then k ⟨.ptr id (p ++ [.idx j.toNat]), [], [], []⟩ else none) else none) else none
      | .hole u pv _ => (match p with | [] => bif alike P t u then (if 0 ≤ j then (if j < (pv.items.length : Int) then k ⟨.ptr id [.idx j.toNat], [], [], []⟩ else none) else none) else none | _ => none)
      | .shl u ps => (match p with | [] => bif alike P t u then (if 0 ≤ j then (if j < (ps.length : Int) then k ⟨.ptr id [.idx j.toNat], [], [], []⟩ else none) else none) else none | _ => none)
      | _ => none
    | .view id p lo hi, .sc (.int _ j) => match h id with
      | .row u _ => bif alike P t (tyAt P u p) then (if 0 ≤ j then (if j < ((hi - lo : Nat) : Int) then k ⟨.ptr id (p ++ [.idx (lo + j.toNat)]), [], [], []⟩ else none) else none) else none
      | _ => none
    | .ro u pv, .sc (.int _ j) => bif alike P t u then (if 0 ≤ j then (if j < (pv.items.length : Int) then k ⟨.rop e (pv.elem j.toNat), [], [], []⟩ else none) else none) else none
    | _, _ => none)
  | _ => none
def eIndexAddr (t : TypeId) (x i : SV) : Option α := match arrOf P t with
  | some (n, e) => eIndexArr P h k t n e x i
  | none => eIndexAddrS P h k t x i
def twoIdx : List Stp → Bool
  | [] => false
  | .fld _ :: r => twoIdx r
  | .idx _ :: r => r.any fun | .idx _ => true | .fld _ => false
def eFieldAddr (s : TypeId) (i : Nat) : SV → Option α
  | .ptr id p => match tk P s with
    | .struct fs => bif Nat.blt i fs.length && Nat.blt 0 (sizeOf P (fs.getD i 0)) && !isArr P s then (match h id with
      | .row u _ => bif alike P s (tyAt P u p) then k ⟨.ptr id (p ++ [.fld i]), [], [], []⟩ else none
      | .box u _ => bif alike P s (tyAt P u p) then k ⟨.ptr id (p ++ [.fld i]), [], [], []⟩ else none
      | .hole u _ _ => bif alike P s (tyAt P u p) then (bif twoIdx p then none else k ⟨.ptr id (p ++ [.fld i]), [], [], []⟩) else none
      | _ => none) else none
    | _ => none
  | .rop u pv => match tk P s with
    | .struct fs => bif Nat.blt i fs.length && Nat.blt 0 (sizeOf P (fs.getD i 0)) && alike P s u && !isArr P s then k ⟨.rop (fs.getD i 0) (pv.fld i), [], [], []⟩ else none
    | _ => none
  | _ => none
def eField (s : TypeId) (i : Nat) : SV → Option α
  | .agg u ys => match tk P s with
    | .struct fs => (match tk P (fs.getD i 0) with
      | .bad => none
      | _ => bif Nat.blt i fs.length && alike P s u && !isArr P s then k ⟨ys.getD i .junk, [], [], []⟩ else none)
    | _ => none
  | _ => none
def eNilCheck : SV → Option α
  | .ptr id p => match h id with
    | .row _ _ | .box _ _ | .shl _ _ => k ⟨.ptr id p, [], [], []⟩
    | _ => none
  | .rop t v => k ⟨.rop t v, [], [], []⟩
  | _ => none
def eLoad (t : TypeId) : SV → Option α
  | .ptr id p => match h id with
    | .row u pv => bif alike P t (tyAt P u p) then k ⟨reifyRef P id 8 t (pv.at p) p, [], [], []⟩ else none
    | .box u sv => bif alike P t (tyAt P u p) && fits P t (sv.at p) then k ⟨sv.at p, [], [], []⟩ else none
    | .shl u ps => (match p with | [.idx j] => bif alike P t (etype P u) then k ⟨reifyRo P 8 t ((PV.list ps).elem j), [], [], []⟩ else none | _ => none)
    | _ => none
  | .rop u pv => bif alike P t u then k ⟨reifyRo P 8 t pv, [], [], []⟩ else none
  | _ => none
def eStore0 (t : TypeId) : SV → SV → Option α
  | .ptr id p, y => match h id with
    | .row u pv => bif alike P t (tyAt P u p) then (match takeT P h t y with
      | some (v, l) => bif nodupB (id :: l) then k ⟨.undef, l.map (fun i => (i, .dead)) ++ [(id, .row u (pv.setAt p v))], l ++ [id], (bif flat P 8 (etype P u) then [] else [id])⟩ else none
      | none => none) else none
    | .box u sv => bif alike P t (tyAt P u p) && fits P t y && fits P t (sv.at p) && setOk sv p y then k ⟨.undef, [(id, .box u (sv.setAt p y))], [id], []⟩ else none
    | _ => none
  | _, _ => none
/-- Put back where a row was taken out. -/
def eStoreIn (t : TypeId) (id j i : Nat) (u : TypeId) (pv : PV) (q : List Stp) (y : SV) : Option α := match q with
  | [.idx j', .fld i'] => if j' = j then (bif Nat.beq i' i && alike P t (tyAt P u [.idx j, .fld i]) then (match takeT P h t y with
    | some (v, l) => bif nodupB (id :: l) then k ⟨.undef, l.map (fun i => (i, .dead)) ++ [(id, .row u (pv.setAt [.idx j, .fld i] v))], l ++ [id], [id]⟩ else none
    | none => none) else none) else none
  | _ => none
def eStore (t : TypeId) (x y : SV) : Option α := match x with
  | .ptr id [.idx j, .fld i] => (match h id with
    | .hole u pv q => eStoreIn P h k t id j i u pv q y
    | _ => eStore0 P h k t (.ptr id [.idx j, .fld i]) y)
  | x => eStore0 P h k t x y
def eAlloc (fr : Nat) (t : TypeId) : Option α := match h fr, zeroSV P t with
  | .free, some z => k ⟨.ptr fr [], [(fr, .box t (toArr P t z))], [fr], []⟩
  | _, _ => none
def eBox (fr : Nat) (t : TypeId) (x : SV) : Option α := match h fr with
  | .free => bif fits P t x then k ⟨.ptr fr [], [(fr, .box t x)], [fr], []⟩ else none
  | _ => none
def eBuild (t : TypeId) (is : List Nat) (vs : List SV) : Option α := match tk P t, zeroSV P t with
  | .struct fs, some (.agg _ zs) => bif fitsAll P fs is vs && fs.all (fun f => (P.info? f).isSome) then k ⟨toArr P t (.agg t (setParts zs is vs)), [], [], []⟩ else none
  | _, _ => none
/-- A row of what is only read. -/
def isRoSV : SV → Bool | .ro _ _ => true | _ => false
def shlLit (P : Program) (t : TypeId) (vs : List SV) : Bool := match tk P t with
  | .slice e => (match tk P e with | .slice _ => vs.all isRoSV | _ => false)
  | _ => false
def eBuildShl (fr : Nat) (t : TypeId) (n : Nat) (ps : List (Nat × Operand)) (vs : List SV) : Option α := match tk P t, h fr with
  | .slice e, .free => bif partsInOrder 0 ps && Nat.beq n ps.length && Nat.ble (n * sizeOf P e) 16777216 then (match contTL P h (List.replicate n e) vs with
    | some xs => k ⟨.ref fr [], [(fr, .shl t xs)], [fr], []⟩
    | none => none) else none
  | _, _ => none
def eBuildSlice0 (fr : Nat) (t : TypeId) (n : Nat) (ps : List (Nat × Operand)) (vs : List SV) : Option α := match tk P t, h fr with
  | .slice e, .free => bif partsInOrder 0 ps && Nat.beq n ps.length && Nat.ble (n * sizeOf P e) 16777216 then (match takeTL P h (List.replicate n e) vs with
    | some (xs, l) => bif nodupB (fr :: l) then k ⟨.ref fr [], l.map (fun i => (i, .dead)) ++ [(fr, .row t (.list xs))], l ++ [fr], []⟩ else none
    | none => none) else none
  | _, _ => none
def eBuildSlice (fr : Nat) (t : TypeId) (n : Nat) (ps : List (Nat × Operand)) (vs : List SV) : Option α :=
  bif shlLit P t vs then eBuildShl P h k fr t n ps vs else eBuildSlice0 P h k fr t n ps vs
def eMakeSlice (fr : Nat) (t : TypeId) : SV → SV → Option α
  | .sc (.int .i64 n), .sc (.int .i64 c) => match tk P t, h fr with
    | .slice e, .free => match zeroPV P e with
      | some z => if 0 ≤ n then (if n ≤ c then (if c.toNat ≤ limMake P e then k ⟨.ref fr [], [(fr, .row t (.list (List.replicate n.toNat z)))], [fr], []⟩ else none) else none) else none
      | none => none
    | _, _ => none
  | _, _ => none
def eExtract (i : Nat) : SV → Option α
  | .tup ys => bif Nat.blt i ys.length then k ⟨ys.getD i .junk, [], [], []⟩ else none
  | _ => none
def eSlice (t : TypeId) (lo hi : Option Operand) : SV → List SV → Option α
  | .sc (.string s), r => match tk P t with
    | .str => boundsK lo hi r s.size fun l h => k ⟨.sc (.string (s.extract l h)), [], [], []⟩
    | _ => none
  | .ref id p, r => match tk P t, h id with
    | .slice _, .row u pv => bif alike P t (tyAt P u p) then boundsK lo hi r (pv.at p).items.length fun l h => k ⟨.view id p l h, [], [], []⟩ else none
    | .slice _, .shl u ps => (match p with | [] => bif alike P t u then boundsK lo hi r ps.length fun l h => k ⟨.view id [] l h, [], [], []⟩ else none | _ => none)
    | _, _ => none
  | .ro u pv, r => bif alike P t u then boundsK lo hi r pv.items.length fun l h => k ⟨.ro u (.list ((pv.items.drop l).take (h - l))), [], [], []⟩ else none
  | _, _ => none
def eLen (t : TypeId) (x : SV) : Option α := match tk P t with
  | .str => (match x with
    | .sc (.string s) => k ⟨.sc (.int .i64 s.size), [], [], []⟩
    | _ => none)
  | .slice _ => (match contT P h t x with
    | some v => k ⟨.sc (.int .i64 v.items.length), [], [], []⟩
    | none => none)
  | _ => none
/-- Bytes of a text, or cells that are plain, over the front of a row. -/
def eCopy (t t' : TypeId) : SV → SV → Option α
  | .ref id [], .sc (.string s) => match tk P t, tk P t', h id with
    | .slice e, .str, .row u pv => (match tk P e with
      | .int .u8 => bif alike P t u then k ⟨.sc (.int .i64 (min s.size pv.items.length : Nat)), [(id, .row u (.list ((bytesL s).take pv.items.length ++ pv.items.drop s.size)))], [id], []⟩ else none
      | _ => none)
    | _, _, _ => none
  | _, _ => none
def eAppend0 (fr : Nat) (t t' : TypeId) (x y : SV) : Option α := match tk P t, h fr with
  | .slice e, .free => match takeT P h t x, (bif flat P 8 e then (match contT P h t' y with | some u => some (u, []) | none => none) else takeT P h t' y) with
    | some (v, l), some (u, m) => bif Nat.beq t t' && nodupB (fr :: l ++ m) && disj (idsOf y) l then (if v.items.length + u.items.length ≤ lim P e then k ⟨.ref fr [], (l ++ m).map (fun i => (i, .dead)) ++ [(fr, .row t (.list (v.items ++ u.items)))], l ++ m ++ [fr], []⟩ else none) else none
    | _, _ => none
  | _, _ => none
/-- An inner row grows: it is taken out of its row. -/
def eAppendIn (fr : Nat) (t t' : TypeId) (id j i : Nat) (y : SV) : Option α := match tk P t, h fr, h id with
  | .slice e, .free, .row u pv => bif flat P 8 e && (alike P t (tyAt P u [.idx j, .fld i]) && Nat.beq t t') then (match contT P h t' y with
    | some q => if (pv.at [.idx j, .fld i]).items.length + q.items.length ≤ lim P e then k ⟨.ref fr [], [(id, .hole u pv [.idx j, .fld i]), (fr, .row t (.list ((pv.at [.idx j, .fld i]).items ++ q.items)))], [id, fr], []⟩ else none
    | none => none) else none
  | _, _, _ => none
def shlSrc (P : Program) (h : Nat → Own) (t : TypeId) : SV → Option (List PV)
  | .nil => some []
  | .ro u pv => bif alike P t u then some pv.items else none
  | .ref id [] => (match h id with | .shl u qs => bif alike P t u then some qs else none | _ => none)
  | .view id [] lo hi => (match h id with | .shl u qs => bif alike P t u then some ((qs.drop lo).take (hi - lo)) else none | _ => none)
  | _ => none
def eAppendShl (fr : Nat) (t t' : TypeId) (id : Nat) (u : TypeId) (ps : List PV) (y : SV) : Option α := match tk P t, h fr with
  | .slice e, .free => bif alike P t u && Nat.beq t t' then (match shlSrc P h t y with
    | some qs => if ps.length + qs.length ≤ lim P e then k ⟨.ref fr [], [(id, .dead), (fr, .shl t (ps ++ qs))], [id, fr], []⟩ else none
    | none => none) else none
  | _, _ => none
def eAppend (fr : Nat) (t t' : TypeId) (x y : SV) : Option α := match x with
  | .ref id [.idx j, .fld i] => eAppendIn P h k fr t t' id j i y
  | .ref id [] => (match h id with
    | .shl u ps => eAppendShl P h k fr t t' id u ps y
    | _ => eAppend0 P h k fr t t' (.ref id []) y)
  | x => eAppend0 P h k fr t t' x y
def noFree (h : Nat → Own) (l : List Nat) : Bool := l.all fun i => match h i with | .free => false | _ => true
/-- A call whose outcome is only read from then on: so are the rows that were handed over. -/
def eCallShr (fr : Nat) (s : ASpec) (xs : List SV) : Option α := match argsOf P h s.params xs with
  | some (ps, [], []) => bif nodupB (roIds s.params xs) && noFree h (roIds s.params xs) then ((s.den ps).bind fun outs => k ⟨retSV (resultsOf P s.res outs fr).1, (roIds s.params xs).map (fun i => (i, .dead)), roIds s.params xs, []⟩) else none
  | _ => none
def eCall0 (fr : Nat) (s : ASpec) (xs : List SV) : Option α := match argsOf P h s.params xs with
  | some (ps, l, m) => bif nodupB (l ++ m.map (·.1)) && disj (roIds s.params xs) (l ++ m.map (·.1)) && (!boxRes s.res || isNil (roIds s.params xs)) then ((s.den ps).bind fun outs => nilCase s.res outs fun outs =>
    let r := resultsOf P s.res outs fr
    bif freeAll h r.2 then k ⟨retSV r.1, l.map (fun i => (i, .dead)) ++ wrote P h m (dropRes s.res outs) ++ r.2, l ++ m.map (·.1) ++ r.2.map (·.1), (m.map (·.1)).filter fun i => !rowFlat P (h i)⟩ else none) else none
  | none => none
def eCall (fr : Nat) (s : ASpec) (xs : List SV) : Option α := bif hasShr s.res then eCallShr P h k fr s xs else eCall0 P h k fr s xs
def eLoadG [Gl P] (t : TypeId) (g : Nat) : Option α := match Gl.gl P g with
  | some (u, pv) => eLoad P h k t (.rop u pv)
  | none => none
def eIndexAddrG [Gl P] (t : TypeId) (g : Nat) (j : SV) : Option α := match Gl.gl P g with
  | some (u, pv) => eIndexAddr P h k t (.rop u pv) j
  | none => none
def opE [Gl P] (T : FuncId → Option ASpec) (fr : Nat) (o : Oper) (xs : List SV) : Option α := match o.op, xs with
  | .move _, [x] => k ⟨x, [], [], []⟩
  | .assign _, [x] => k ⟨x, [], [], []⟩
  | .pick _ _ _, [c, a, b] => ePick k c a b
  | .binOp op t _ z _, [x, y] => eBinO P h op t z x y fun v => k ⟨.sc v, [], [], []⟩
  | .unOp op _ _, [x] => unK op x fun v => k ⟨.sc v, [], [], []⟩
  | .convert src dst _, [x] => eConvert P h k fr src dst x
  | .index t _ _, [x, j] => eIndex P k t x j
  | .indexAddr t (.global g) _, [_, j] => eIndexAddrG P h k t g j
  | .indexAddr t _ _, [x, j] => eIndexAddr P h k t (unCon x) j
  | .fieldAddr s _ i, [x] => eFieldAddr P h k s i x
  | .field s _ i, [x] => eField P k s i x
  | .nilCheck _, [x] => eNilCheck h k x
  | .load t (.global g), _ => eLoadG P h k t g
  | .load t _, [x] => eLoad P h k t x
  | .store t _ _, [x, y] => eStore P h k t x y
  | .alloc t, [] => eAlloc P h k fr t
  | .box t _, [x] => eBox P h k fr t x
  | .build t ps, vs => eBuild P k t (ps.toList.map (·.1)) vs
  | .buildSlice t n ps, vs => eBuildSlice P h k fr t n ps.toList vs
  | .makeSlice t _ _, [n, c] => eMakeSlice P h k fr t n c
  | .extract _ i, [x] => eExtract k i x
  | .slice t _ lo hi none, x :: r => eSlice P h k t lo hi (unCon x) r
  | .call c, xs => match c.callee, c.argTypes.toList, xs with
    | .builtin .len, [t], [x] => eLen P h k t x
    | .builtin .append, [t, t'], [x, y] => eAppend P h k fr t t' x y
    | .builtin .copy, [t, t'], [x, y] => eCopy P h k t t' x y
    | .builtin .max, _, [.sc (.int kd a), .sc (.int _ b)] => k ⟨.sc (.int kd (maxI a b)), [], [], []⟩
    | .builtin .min, _, [.sc (.int kd a), .sc (.int _ b)] => k ⟨.sc (.int kd (minI a b)), [], [], []⟩
    | .builtin .max, _, [.sc (.int kd a), .sc (.int _ b), .sc (.int _ c)] => k ⟨.sc (.int kd (maxI (maxI a b) c)), [], [], []⟩
    | .builtin .min, _, [.sc (.int kd a), .sc (.int _ b), .sc (.int _ c)] => k ⟨.sc (.int kd (minI (minI a b) c)), [], [], []⟩
    | .builtin .max, _, [.sc (.int kd a), .sc (.int _ b), .sc (.int _ c), .sc (.int _ d)] => k ⟨.sc (.int kd (maxI (maxI (maxI a b) c) d)), [], [], []⟩
    | .builtin .min, _, [.sc (.int kd a), .sc (.int _ b), .sc (.int _ c), .sc (.int _ d)] => k ⟨.sc (.int kd (minI (minI (minI a b) c) d)), [], [], []⟩
    | .value (.func f), _, xs => match T f with
      | some s => eCall P h k fr s xs
      | none => none
    | _, _, _ => none
  | _, _ => none
end
def restrict (h : Nat → Own) (ids : List Nat) : Nat → Own := fun i => bif memB ids i then h i else .dead
mutual
def freshen (l : List Nat) : SV → SV
  | .ref id [] => .ref id []
  | .ref id p => bif memB l id then .junk else .ref id p
  | .view id [] a b => .view id [] a b
  | .view id p a b => bif memB l id then .junk else .view id p a b
  | .ptr id p => bif memB l id && twoIdx p then .junk else .ptr id p
  | .agg t xs => .agg t (freshenL l xs)
  | .tup xs => .tup (freshenL l xs)
  | x => x
termination_by structural x => x
def freshenL (l : List Nat) : List SV → List SV
  | [] => []
  | x :: r => freshen l x :: freshenL l r
termination_by structural xs => xs
end
def freshenOwn (l : List Nat) : Own → Own
  | .box t sv => .box t (freshen l sv)
  | o => o
def St.freshen (σ : St) : List Nat → St
  | [] => σ
  | l => { slots := freshenL l σ.slots, oh := fun i => freshenOwn l (σ.oh i) }
def St.app (σ : St) (d : Option Tmp) (e : Eff) : St := St.freshen { slots := match d with | some d => σ.slots.set d e.val | none => σ.slots, oh := e.ws.foldl (fun h x => upd h x.1 x.2) σ.oh } e.stale
structure Acc where
  i : Nat
  ids : List Nat
  wi : List Nat
  stale : Bool
def clashFree (bf : Nat) (ids wi : List Nat) (stale : Bool) (accs : List Acc) : Bool := accs.all fun a => bf.testBit a.i || (!stale && !a.stale && disj wi a.ids && disj wi a.wi && disj a.wi ids)
def runOps {α : Type} (P : Program) [Gl P] (T : FuncId → Option ASpec) (bs : Array Nat) (drawn : Bool) (ops : Array Oper) (base : Nat) : Nat → List Oper → St → List Acc → (St → Option α) → Option α
  | _, [], σ, _, k => k σ
  | i, o :: r, σ, accs, k =>
    let go : St → Option α := fun σ =>
      let xs := (opnds o.op).map σ.ev
      let fr := base + 8 * i
      let ids := idsFor o fr xs
      opE P (restrict σ.oh ids) (fun e =>
        bif drawn && !clashFree (bs.getD i 0) ids e.wi (!isNil e.stale) accs then none else runOps P T bs drawn ops base (i + 1) r (σ.app o.dst e) (⟨i, ids, e.wi, !isNil e.stale⟩ :: accs) k) T fr o xs
    match o.guard with
    | none => go σ
    | some (j, pol) => match (ops[j]?).bind (·.dst) with
      | some d => match σ.slots.getD d .junk with
        | .sc (.bool b) => if b = pol then go (σ.put (some d) (.sc (.bool pol))) else runOps P T bs drawn ops base (i + 1) r ((σ.put (some d) (.sc (.bool !pol))).put o.dst .undef) accs k
        | .undef => runOps P T bs drawn ops base (i + 1) r (σ.put o.dst .undef) accs k
        | _ => none
      | none => none
inductive Ex where
  | normal
  | exit (id : Nat)
  | ret
/-- What a loop's head forgets (slots), and which slots' nil slices become rows of one's own there. -/
structure Nz where
  forget : List Nat
  owns : List (Nat × TypeId)
  /-- slots whose rows are let go, and read alone from there on -/
  frz : List (Nat × TypeId) := []
def addIds (l : List Nat) : List Nat → List Nat
  | [] => l
  | a :: r => addIds (bif memB l a then l else l ++ [a]) r
def boxIds (h : Nat → Own) : List Nat → List Nat
  | [] => []
  | a :: r => (match h a with | .box _ sv => idsOf sv | _ => []) ++ boxIds h r
mutual
def ren (l : List Nat) : SV → SV
  | .ref id p => bif memB l id then .ref (l.findIdx (Nat.beq id)) p else .junk
  | .view id p a b => bif memB l id then .view (l.findIdx (Nat.beq id)) p a b else .junk
  | .ptr id p => bif memB l id then .ptr (l.findIdx (Nat.beq id)) p else .junk
  | .agg t xs => .agg t (renL l xs)
  | .tup xs => .tup (renL l xs)
  | x => x
def renL (l : List Nat) : List SV → List SV
  | [] => []
  | x :: r => ren l x :: renL l r
end
def renOwn (l : List Nat) : Own → Own
  | .box t sv => .box t (ren l sv)
  | o => o
def St.gc (σ : St) (pins : Nat) : St :=
  let l0 := addIds (List.range pins) (idsOfL σ.slots)
  let l1 := addIds l0 (boxIds σ.oh l0)
  let l2 := addIds l1 (boxIds σ.oh l1)
  { slots := renL l2 σ.slots, oh := ohOf (l2.map fun i => renOwn l2 (σ.oh i)) }
def St.forget (σ : St) (l : List Nat) : St := { σ with slots := l.foldl (fun s i => s.set i .junk) σ.slots }
def St.own1 (P : Program) (σ : St) (i : Nat) (t : TypeId) (id : Nat) : St := match σ.slots.getD i .junk, σ.oh id, tk P t with
  | .nil, .free, .slice _ => { slots := σ.slots.set i (.ref id []), oh := upd σ.oh id (.row t (.list [])) }
  | _, _, _ => σ
def ownAll (P : Program) : List (Nat × TypeId) → Nat → St → St
  | [], _, σ => σ
  | (i, t) :: r, id, σ => ownAll P r (id + 1) (σ.own1 P i t id)
def firstRegion : Code → Option Nat
  | .region id _ _ => some id
  | .seq a b => match firstRegion a with | some i => some i | none => firstRegion b
  | .block _ b => firstRegion b
  | .loop b => firstRegion b
  | _ => none
/-- ts: the types of the rows (false) and boxes (true) lent. -/
structure Env where
  T : FuncId → Option ASpec
  M : Nat → Nz
  N : Nat
  ts : List (Bool × TypeId)
  fz : Bool := false
abbrev Env.pins (E : Env) : Nat := E.ts.length
/-- Rows that are shared come only to functions that may freeze rows. -/
def Env.Tz (E : Env) (f : FuncId) : Option ASpec := match E.T f with
  | some s => bif !hasShr s.res || (E.fz && (allRo s.params && oneRes s.res)) then some s else none
  | none => none
def Env.nzAt (E : Env) (i : Nat) : Nz := bif E.fz then E.M i else { E.M i with frz := [] }
def St.frzW (P : Program) (σ : St) (i : Nat) (t : TypeId) (id : Nat) (x : SV) : St := match tk P t, σ.oh id, contT P σ.oh t x with
  | .slice _, .row _ _, some pv => { slots := σ.slots.set i (.ro t pv), oh := upd σ.oh id .dead }
  | _, _, _ => σ
def St.frz1 (P : Program) (σ : St) (i : Nat) (t : TypeId) : St := match σ.slots.getD i .junk with
  | .ref id [] => σ.frzW P i t id (.ref id [])
  | .view id [] lo hi => σ.frzW P i t id (.view id [] lo hi)
  | _ => σ
def frzAll (P : Program) : List (Nat × TypeId) → St → St
  | [], σ => σ
  | (i, t) :: r, σ => frzAll P r (σ.frz1 P i t)
def St.nz (P : Program) (σ : St) (pins : Nat) (z : Nz) : St := (ownAll P z.owns 100000 (frzAll P z.frz (σ.forget z.forget))).gc pins
def loopN {α : Type} (P : Program) (pins : Nat) (z : Nz) (f : St → (Ex → St → Option α) → Option α) : Nat → St → (Ex → St → Option α) → Option α
  | 0, _, _ => none
  | n + 1, σ, k => f σ fun e σ' => match e with
    | .normal => loopN P pins z f n (σ'.nz P pins z) k
    | e => k e σ'
def exec {α : Type} (P : Program) [Gl P] (E : Env) : Code → St → (Ex → St → Option α) → Option α
  | .skip, σ, k => k .normal σ
  | .region id ops drawn, σ, k => runOps P E.Tz (if drawn = true then Region.before ops else #[]) drawn ops (64 + 512 * id) 0 ops.toList σ [] (k .normal)
  | .seq a b, σ, k => exec P E a σ fun e σ' => match e with
    | .normal => exec P E b σ' k
    | e => k e σ'
  | .cond c a b, σ, k => match σ.ev c with
    | .sc (.bool cb) => if cb = true then exec P E a σ k else exec P E b σ k
    | _ => none
  | .block id body, σ, k => exec P E body σ fun e σ' => match e with
    | .exit j => bif Nat.beq j id then k .normal σ' else k (.exit j) σ'
    | e => k e σ'
  | .loop body, σ, k => let z := E.nzAt ((firstRegion body).getD 0); loopN P E.pins z (exec P E body) E.N (σ.nz P E.pins z) k
  | .exit id, σ, k => k (.exit id) σ
  | .ret, σ, k => k .ret σ
  | _, _, _ => none
/-- A part of the code, and what follows it. -/
def codeAt : Code → List Nat → Code
  | c, [] => c
  | .seq a _, 0 :: p => codeAt a p
  | .seq _ b, _ :: p => codeAt b p
  | .cond _ a _, 0 :: p => codeAt a p
  | .cond _ _ b, _ :: p => codeAt b p
  | .block _ b, _ :: p => codeAt b p
  | .loop b, _ :: p => codeAt b p
  | c, _ => c
def isNilV : SV → Bool | .nil => true | _ => false
def isE : List PV → Bool | [] => true | _ => false
/-- A result: read, or given away. -/
def results1 (P : Program) (h : Nat → Own) : List (TypeId × RMode) → List SV → Option (List PV × List Nat)
  | [], [] => some ([], [])
  | (t, .val) :: rs, x :: xs => match contT P h t x, results1 P h rs xs with
    | some v, some (vs, l) => some (v :: vs, l)
    | _, _ => none
  | (t, .own) :: rs, x :: xs => match takeT P h t x, results1 P h rs xs with
    | some (v, l), some (vs, m) => some (v :: vs, l ++ m)
    | _, _ => none
  | (t, .nown) :: rs, x :: xs => match takeT P h t x, results1 P h rs xs with
    | some (v, l), some (vs, m) => bif isNilV x || !isE v.items then some (v :: vs, l ++ m) else none
    | _, _ => none
  | (t, .box) :: rs, .ptr id [] :: xs => match ptee P t, h id, results1 P h rs xs with
    | some u, .box u' sv, some (vs, m) => bif Nat.beq u u' && isNil (idsOf sv) then (match contT P h u sv with | some v => some (v :: vs, id :: m) | none => none) else none
    | _, _, _ => none
  | (t, .shr) :: rs, x :: xs => match contT P h t x, results1 P h rs xs with
    | some v, some (vs, l) => some (v :: vs, l)
    | _, _ => none
  | _, _ => none
def resultSVs (P : Program) (σ : St) : List ResultVar → Option (List SV)
  | [] => some []
  | .tmp t :: r => match resultSVs P σ r with
    | some xs => some (σ.ev (.tmp t) :: xs)
    | none => none
  | .cell t ty :: r => match σ.ev (.tmp t) with
    | .ptr id [] => match σ.oh id, resultSVs P σ r with
      | .box u sv, some xs => bif alike P ty u && fits P ty sv then some (sv :: xs) else none
      | _, _ => none
    | _ => none
def conFs (f : TypeId → SV → Nat → Bool) (P : Program) : List TypeId → List SV → Nat → Bool
  | [], [], _ => true
  | t :: r, x :: xs, o => f t x o && conFs f P r xs (o + sizeOf P t)
  | _, _, _ => false
/-- The slices of a box lent are what they were. -/
def conOk (P : Program) : Nat → TypeId → SV → Nat → Bool
  | 0, _, _, _ => false
  | n + 1, t, x, o => match tk P t with
    | .slice _ => (match x with | .con g _ _ => Nat.beq g o | _ => false)
    | .struct fs => (match x with | .agg _ xs => conFs (conOk P n) P fs xs o | _ => false)
    | _ => true
def outMuts (P : Program) (h : Nat → Own) : Nat → List (Bool × TypeId) → Option (List PV)
  | _, [] => some []
  | i, (false, t) :: ts => match h i, outMuts P h (i + 1) ts with
    | .row u pv, some ps => bif alike P t u then some (pv :: ps) else none
    | _, _ => none
  | i, (true, t) :: ts => match h i, outMuts P h (i + 1) ts with
    | .box u sv, some ps => bif Nat.beq t u && conOk P 8 t sv (i * 4096) then (match contT P h t sv with | some pv => some (pv :: ps) | none => none) else none
    | _, _ => none
def fin (P : Program) (E : Env) (f : Func) (res : List (TypeId × RMode)) : Ex → St → Option Res
  | .exit _, _ => none
  | _, σ => match resultSVs P σ f.results.toList with
    | some xs => match results1 P σ.oh res xs with
      | some (vs, l) => match outMuts P σ.oh 0 E.ts with
        | some ms => bif nodupB (List.range E.pins ++ l) then some (vs ++ ms) else none
        | none => none
      | none => none
    | none => none
def fieldsCon (f : TypeId → PV → Nat → SV) (P : Program) : List TypeId → PV → Nat → Nat → List SV
  | [], _, _, _ => []
  | t :: r, pv, i, o => f t (pv.fld i) o :: fieldsCon f P r pv (i + 1) (o + sizeOf P t)
/-- A box lent: its slices by number. -/
def conRo (P : Program) : Nat → TypeId → PV → Nat → SV
  | 0, _, _, _ => .junk
  | n + 1, t, pv, o => match tk P t with
    | .slice _ => .con o t pv
    | .struct fs => .agg t (fieldsCon (conRo P n) P fs pv 0 o)
    | _ => reifyRo P 1 t pv
/-- Parameters: what is lent to be written comes first among the numbers. -/
def paramsOf (P : Program) : List (TypeId × Mode) → List PV → Nat → Nat → List SV × List (Nat × Own)
  | (t, .ro) :: ms, v :: vs, m, fr => let r := paramsOf P ms vs m fr; (reifyRo P 8 t v :: r.1, r.2)
  | (t, .own) :: ms, v :: vs, m, fr => let a := adopt P 8 t v fr; let r := paramsOf P ms vs m (fr + a.2.length); (a.1 :: r.1, a.2 ++ r.2)
  | (t, .mut) :: ms, v :: vs, m, fr => let r := paramsOf P ms vs (m + 1) fr; (.ref m [] :: r.1, (m, .row t v) :: r.2)
  | (t, .box) :: ms, v :: vs, m, fr => let u := (ptee P t).getD 0; let r := paramsOf P ms vs (m + 1) fr; (.ptr m [] :: r.1, (m, .box u (conRo P 8 u v (m * 4096))) :: r.2)
  | (t, .mut2) :: ms, v :: vs, m, fr => (match tk P t with
    | .struct [t1, t2] => let r := paramsOf P ms vs (m + 2) fr; (.agg t [.ref m [], .ref (m + 1) []] :: r.1, (m, .row t1 (v.fld 0)) :: (m + 1, .row t2 (v.fld 1)) :: r.2)
    | _ => ([], []))
  | (t, .muts) :: ms, v :: vs, m, fr => let a := adopt P 8 t v m; let r := paramsOf P ms vs (m + a.2.length) fr; (a.1 :: r.1, a.2 ++ r.2)
  | _, _, _, _ => ([], [])
def mkSlots (n : Nat) (l : List (Nat × SV)) : List SV := l.foldl (fun s x => s.set x.1 x.2) (List.replicate n .junk)
def bodyOf (f : Func) : Code := f.body.getD .skip
def startOf (P : Program) (E : Env) (f : Func) (ms : List (TypeId × Mode)) (args : List PV) : St :=
  let r := paramsOf P ms args 0 E.pins
  ⟨r.1 ++ List.replicate (f.ntmps - args.length) .junk, fun i => (r.2.find? fun x => Nat.beq x.1 i).elim .free (·.2)⟩
def run (P : Program) [Gl P] (E : Env) (f : Func) (ms : List (TypeId × Mode)) (res : List (TypeId × RMode)) (args : List PV) : Option Res :=
  exec P E (bodyOf f) (startOf P E f ms args) (fin P E f res)
/-- What follows a part of the code (inside loops: with so many rounds left for each). -/
def contAt (P : Program) [Gl P] (E : Env) : List Nat → Code → List Nat → (Ex → St → Option Res) → (Ex → St → Option Res)
  | ms, .seq a b, 0 :: p, k => contAt P E ms a p fun e σ' => match e with
    | .normal => exec P E b σ' k
    | e => k e σ'
  | ms, .seq _ b, _ :: p, k => contAt P E ms b p k
  | ms, .cond _ a _, 0 :: p, k => contAt P E ms a p k
  | ms, .cond _ _ b, _ :: p, k => contAt P E ms b p k
  | ms, .block id b, _ :: p, k => contAt P E ms b p fun e σ' => match e with
    | .exit j => bif Nat.beq j id then k .normal σ' else k (.exit j) σ'
    | e => k e σ'
  | ms, .loop b, _ :: p, k => contAt P E ms.tail b p fun e σ' => match e with
    | .normal => let z := E.nzAt ((firstRegion b).getD 0); loopN P E.pins z (exec P E b) ms.head! (σ'.nz P E.pins z) k
    | e => k e σ'
  | _, _, _, k => k
def loopBody : Code → Code
  | .loop b => b
  | c => c
/-- The loop at a place of a function's code, with n rounds. -/
def loopAt (P : Program) [Gl P] (E : Env) (f : Func) (res : List (TypeId × RMode)) (p : List Nat) (ms : List Nat) (n : Nat) (σ : St) : Option Res :=
  let b := loopBody (codeAt (bodyOf f) p); loopN P E.pins (E.nzAt ((firstRegion b).getD 0)) (exec P E b) n σ (contAt P E ms (bodyOf f) p (fin P E f res))
def lk : List (FuncId × ASpec) → FuncId → Option ASpec
  | [], _ => none
  | (g, s) :: r, f => bif Nat.beq g f then some s else lk r f
def nzk : List (Nat × Nz) → Nat → Nz
  | [], _ => ⟨[], [], []⟩
  | (g, s) :: r, f => bif Nat.beq g f then s else nzk r f
end Go.Proofs.YtfbkfhdlingedaaAm

/-! What a tree says about memory: read (Rd), owned (Ow: with its blocks). -/
namespace Go.Proofs.YtfbkfhdlingedaaAm
open Go RowKit

/-- One cell's value. -/
abbrev one (v : Value) : Bool := v.oneCell'

def RowAt (R : PV → List Value → Prop) (w : World) (sz : Nat) (ad : Addr) (ps : List PV) : Prop :=
  ∀ j p, ps[j]? = some p → ∃ c, c.length = sz ∧ (∀ q u, c[q]? = some u → w.cell? (ad.add (j * sz + q)) = some u) ∧ R p c
def Flds (R : TypeId → PV → List Value → Prop) : List TypeId → List PV → List Value → Prop
  | [], [], cs => cs = []
  | t :: ts, p :: ps, cs => ∃ c cs', cs = c ++ cs' ∧ R t p c ∧ Flds R ts ps cs'
  | _, _, _ => False
/-- A value's cells, read as a tree; ok: the blocks it may lead to. -/
def Rd (P : Program) (ok : Nat → Prop) (w : World) : Nat → TypeId → PV → List Value → Prop
  | 0, _, _, _ => False
  | n + 1, t, pv, cs => match tk P t with
    | .int k => ∃ x, pv = .sc (.int k x) ∧ cs = [.int k x]
    | .bool => ∃ b, pv = .sc (.bool b) ∧ cs = [.bool b]
    | .str => ∃ s, pv = .sc (.string s) ∧ cs = [.string s]
    | .slice e => ∃ A cap ps, cs = [.slice A ps.length cap] ∧ pv = .list ps ∧ ps.length ≤ cap ∧ (0 < ps.length → ∃ ad, A = some ad ∧ ok ad.block ∧ RowAt (Rd P ok w n e) w (sizeOf P e) ad ps)
    | .struct fs => ∃ ps, pv = .agg ps ∧ Flds (Rd P ok w n) fs ps cs
    | .other => ∃ v, pv = .sc v ∧ cs = [v] ∧ one v = true
    | .bad => False
def OwSeq (R : PV → List Value → List Nat → Prop) (sz : Nat) : List PV → List Value → List Nat → Prop
  | [], cs, F => cs = [] ∧ F = []
  | p :: ps, cs, F => ∃ c cs' f F', cs = c ++ cs' ∧ c.length = sz ∧ F = f ++ F' ∧ R p c f ∧ OwSeq R sz ps cs' F'
def OwFlds (R : TypeId → PV → List Value → List Nat → Prop) : List TypeId → List PV → List Value → List Nat → Prop
  | [], [], cs, F => cs = [] ∧ F = []
  | t :: ts, p :: ps, cs, F => ∃ c cs' f F', cs = c ++ cs' ∧ F = f ++ F' ∧ R t p c f ∧ OwFlds R ts ps cs' F'
  | _, _, _, _ => False
/-- A block's mark, if it has one, lies behind its cells. -/
def FzOk (n : Nat) (fz : Nat × Nat) : Prop := fz = (0, 0) ∨ n ≤ fz.1
/-- A row of one's own. -/
def ownsR (w : World) (e : TypeId) (size : Nat) (v : Value) (n : Nat) (xs : List Value) : Prop :=
  xs.length = n * size ∧
  ((v = .slice none 0 0 ∧ n = 0) ∨
   ∃ g cap cur fz, v = .slice (some ⟨g, 0, none⟩) n cap ∧ FzOk cur.size fz ∧ w.heap[g]? = some (.cells cur e fz) ∧ n ≤ cap ∧ cap ≤ maxLen ∧ cur.size = cap * size ∧ cur.toList.take (n * size) = xs)
theorem ownsR_of {w : World} {b : Nat} {e : TypeId} {size : Nat} {v : Value} {n : Nat} {xs : List Value} (h : w.ownsRow b e size v n xs) : ownsR w e size v n xs :=
  ⟨h.1, h.2.imp id (fun ⟨g, cap, cur, h1, _, h3, h4⟩ => ⟨g, cap, cur, (0, 0), h1, .inl rfl, h3, h4⟩)⟩
/-- A value's cells as a tree all of whose rows are one's own: F, their blocks. -/
def Ow (P : Program) (w : World) : Nat → TypeId → PV → List Value → List Nat → Prop
  | 0, _, _, _, _ => False
  | n + 1, t, pv, cs, F => match tk P t with
    | .int k => (∃ x, pv = .sc (.int k x) ∧ cs = [.int k x]) ∧ F = []
    | .bool => (∃ b, pv = .sc (.bool b) ∧ cs = [.bool b]) ∧ F = []
    | .str => (∃ s, pv = .sc (.string s) ∧ cs = [.string s]) ∧ F = []
    | .slice e => ∃ v xs ps F', cs = [v] ∧ pv = .list ps ∧ ownsR w e (sizeOf P e) v ps.length xs ∧ F = v.ownBlock.toList ++ F' ∧ OwSeq (Ow P w n e) (sizeOf P e) ps xs F'
    | .struct fs => ∃ ps, pv = .agg ps ∧ OwFlds (Ow P w n) fs ps cs F
    | .other => (∃ v, pv = .sc v ∧ cs = [v] ∧ one v = true) ∧ F = []
    | .bad => False

section
variable {P : Program} {ok ok' : Nat → Prop} {w w' : World} {n : Nat} {t u : TypeId} {pv : PV} {cs : List Value} {F : List Nat}

theorem RowAt.imp {R R' : PV → List Value → Prop} {sz : Nat} {ad : Addr} {ps : List PV} (h : RowAt R w sz ad ps) (hc : ∀ a v, a.block = ad.block → w.cell? a = some v → w'.cell? a = some v) (hR : ∀ p c, p ∈ ps → R p c → R' p c) : RowAt R' w' sz ad ps := by
  intro j p hj
  obtain ⟨c, h1, h2, h3⟩ := h j p hj
  exact ⟨c, h1, fun q u hq => hc _ _ (by unfold Addr.add; split <;> rfl) (h2 q u hq), hR p c (List.mem_of_getElem? hj) h3⟩
theorem Flds.imp {R R' : TypeId → PV → List Value → Prop} : ∀ {ts : List TypeId} {ps : List PV} {cs : List Value}, (∀ t p c, t ∈ ts → R t p c → R' t p c) → Flds R ts ps cs → Flds R' ts ps cs
  | [], [], _, _, h => h
  | t :: ts, p :: ps, cs, hR, ⟨c, cs', h1, h2, h3⟩ => ⟨c, cs', h1, hR _ _ _ List.mem_cons_self h2, Flds.imp (fun t p c ht => hR t p c (List.mem_cons_of_mem _ ht)) h3⟩
  | [], _ :: _, _, _, h => h.elim
  | _ :: _, [], _, _, h => h.elim
theorem Rd.imp (hc : ∀ a v, ok a.block → w.cell? a = some v → w'.cell? a = some v) (hok : ∀ k, ok k → ok' k) : ∀ {n : Nat} {t : TypeId} {pv : PV} {cs : List Value}, Rd P ok w n t pv cs → Rd P ok' w' n t pv cs
  | 0, _, _, _, h => h.elim
  | n + 1, t, pv, cs, h => by
    unfold Rd at h ⊢
    split <;> rename_i ht <;> simp only [ht] at h
    · exact h
    · exact h
    · exact h
    · obtain ⟨A, cap, ps, h1, h2, h3, h4⟩ := h
      refine ⟨A, cap, ps, h1, h2, h3, fun h0 => ?_⟩
      obtain ⟨ad, h5, h6, h7⟩ := h4 h0
      exact ⟨ad, h5, hok _ h6, h7.imp (fun a v hb hv => hc a v (hb ▸ h6) hv) (fun p c _ hp => Rd.imp hc hok hp)⟩
    · obtain ⟨ps, h1, h2⟩ := h
      exact ⟨ps, h1, h2.imp (fun t p c _ hp => Rd.imp hc hok hp)⟩
    · exact h
theorem Rd.frame (h : Rd P ok w n t pv cs) (hc : ∀ k, ok k → w'.heap[k]? = w.heap[k]?) : Rd P ok w' n t pv cs :=
  h.imp (fun a v ha hv => by simpa [World.cell?, hc _ ha] using hv) (fun _ h => h)
theorem Rd.mono (h : Rd P ok w n t pv cs) (hok : ∀ k, ok k → ok' k) : Rd P ok' w n t pv cs := h.imp (fun _ _ _ hv => hv) hok
theorem Rd.succ : ∀ {n : Nat} {t : TypeId} {pv : PV} {cs : List Value}, Rd P ok w n t pv cs → Rd P ok w (n + 1) t pv cs
  | 0, _, _, _, h => h.elim
  | n + 1, t, pv, cs, h => by
    unfold Rd at h ⊢
    split <;> rename_i ht <;> simp only [ht] at h
    · exact h
    · exact h
    · exact h
    · obtain ⟨A, cap, ps, h1, h2, h3, h4⟩ := h
      refine ⟨A, cap, ps, h1, h2, h3, fun h0 => ?_⟩
      obtain ⟨ad, h5, h6, h7⟩ := h4 h0
      exact ⟨ad, h5, h6, h7.imp (fun _ _ _ hv => hv) (fun p c _ hp => Rd.succ hp)⟩
    · obtain ⟨ps, h1, h2⟩ := h
      exact ⟨ps, h1, h2.imp (fun t p c _ hp => Rd.succ hp)⟩
    · exact h
theorem Rd.le {n m : Nat} (hnm : n ≤ m) (h : Rd P ok w n t pv cs) : Rd P ok w m t pv cs := by
  induction hnm with
  | refl => exact h
  | step _ ih => exact ih.succ

theorem OwSeq.imp {R R' : PV → List Value → List Nat → Prop} {sz : Nat} : ∀ {ps : List PV} {cs : List Value} {F : List Nat}, (∀ p c f, (∀ k ∈ f, k ∈ F) → R p c f → R' p c f) → OwSeq R sz ps cs F → OwSeq R' sz ps cs F
  | [], _, _, _, h => h
  | p :: ps, cs, F, hR, ⟨c, cs', f, F', h1, h2, h3, h4, h5⟩ => ⟨c, cs', f, F', h1, h2, h3, hR _ _ _ (fun k hk => h3 ▸ List.mem_append_left _ hk) h4, OwSeq.imp (fun p c f hf => hR p c f (fun k hk => h3 ▸ List.mem_append_right _ (hf k hk))) h5⟩
theorem OwFlds.imp {R R' : TypeId → PV → List Value → List Nat → Prop} : ∀ {ts : List TypeId} {ps : List PV} {cs : List Value} {F : List Nat}, (∀ t p c f, (∀ k ∈ f, k ∈ F) → R t p c f → R' t p c f) → OwFlds R ts ps cs F → OwFlds R' ts ps cs F
  | [], [], _, _, _, h => h
  | t :: ts, p :: ps, cs, F, hR, ⟨c, cs', f, F', h1, h3, h4, h5⟩ => ⟨c, cs', f, F', h1, h3, hR _ _ _ _ (fun k hk => h3 ▸ List.mem_append_left _ hk) h4, OwFlds.imp (fun t p c f hf => hR t p c f (fun k hk => h3 ▸ List.mem_append_right _ (hf k hk))) h5⟩
  | [], _ :: _, _, _, _, h => h.elim
  | _ :: _, [], _, _, _, h => h.elim
theorem ownsR_lt {e : TypeId} {size n : Nat} {v : Value} {xs : List Value} (h : ownsR w e size v n xs) : ∀ k, v.ownBlock = some k → k < w.heap.size := by
  intro k hk
  rcases h.2 with ⟨rfl, _⟩ | ⟨g, cap, cur, fz, rfl, _, hg, _⟩
  · simp [Value.ownBlock] at hk
  · simp [Value.ownBlock] at hk
    subst hk
    exact (Array.getElem?_eq_some_iff.1 hg).1
theorem ownsRow_move {e : TypeId} {size n : Nat} {v : Value} {xs : List Value} (h : ownsR w e size v n xs) (hm : ∀ k, v.ownBlock = some k → w'.heap[k]? = w.heap[k]?) : ownsR w' e size v n xs := by
  obtain ⟨h1, h2⟩ := h
  refine ⟨h1, ?_⟩
  rcases h2 with h2 | ⟨g, cap, cur, fz, rfl, hg, hh, r⟩
  · exact .inl h2
  · exact .inr ⟨g, cap, cur, fz, rfl, hg, (hm g (by simp [Value.ownBlock])).trans hh, r⟩
theorem Ow.frame : ∀ {n : Nat} {t : TypeId} {pv : PV} {cs : List Value} {F : List Nat}, (∀ k ∈ F, w'.heap[k]? = w.heap[k]?) → Ow P w n t pv cs F → Ow P w' n t pv cs F
  | 0, _, _, _, _, _, h => h.elim
  | n + 1, t, pv, cs, F, hF, h => by
    unfold Ow at h ⊢
    split <;> rename_i ht <;> simp only [ht] at h
    · exact h
    · exact h
    · exact h
    · obtain ⟨v, xs, ps, F', h1, h2, h3, h4, h5⟩ := h
      exact ⟨v, xs, ps, F', h1, h2, ownsRow_move h3 (fun k hk => hF k (by rw [h4, hk]; simp)), h4, h5.imp (fun p c f hf hp => Ow.frame (fun k hk => hF k (by rw [h4]; exact List.mem_append_right _ (hf k hk))) hp)⟩
    · obtain ⟨ps, h1, h2⟩ := h
      exact ⟨ps, h1, h2.imp (fun t p c f hf hp => Ow.frame (fun k hk => hF k (hf k hk)) hp)⟩
    · exact h
theorem Ow.succ : ∀ {n : Nat} {t : TypeId} {pv : PV} {cs : List Value} {F : List Nat}, Ow P w n t pv cs F → Ow P w (n + 1) t pv cs F
  | 0, _, _, _, _, h => h.elim
  | n + 1, t, pv, cs, F, h => by
    unfold Ow at h ⊢
    split <;> rename_i ht <;> simp only [ht] at h
    · exact h
    · exact h
    · exact h
    · obtain ⟨v, xs, ps, F', h1, h2, h3, h4, h5⟩ := h
      exact ⟨v, xs, ps, F', h1, h2, h3, h4, h5.imp (fun p c f _ hp => Ow.succ hp)⟩
    · obtain ⟨ps, h1, h2⟩ := h
      exact ⟨ps, h1, h2.imp (fun t p c f _ hp => Ow.succ hp)⟩
    · exact h
theorem Ow.le {n m : Nat} (hnm : n ≤ m) (h : Ow P w n t pv cs F) : Ow P w m t pv cs F := by
  induction hnm with
  | refl => exact h
  | step _ ih => exact ih.succ
theorem OwSeq.mem {R : PV → List Value → List Nat → Prop} {Z : Nat → Prop} {sz : Nat} : ∀ {ps : List PV} {cs : List Value} {F : List Nat}, (∀ p c f, R p c f → ∀ k ∈ f, Z k) → OwSeq R sz ps cs F → ∀ k ∈ F, Z k
  | [], _, _, _, h, k, hk => by rw [h.2] at hk; cases hk
  | _ :: _, _, _, hR, ⟨_, _, f, F', _, _, h3, h4, h5⟩, k, hk => by
    subst h3
    rcases List.mem_append.1 hk with hk | hk
    · exact hR _ _ _ h4 k hk
    · exact OwSeq.mem hR h5 k hk
theorem OwFlds.mem {R : TypeId → PV → List Value → List Nat → Prop} {Z : Nat → Prop} : ∀ {ts : List TypeId} {ps : List PV} {cs : List Value} {F : List Nat}, (∀ t p c f, R t p c f → ∀ k ∈ f, Z k) → OwFlds R ts ps cs F → ∀ k ∈ F, Z k
  | [], [], _, _, _, h, k, hk => by rw [h.2] at hk; cases hk
  | _ :: _, _ :: _, _, _, hR, ⟨_, _, f, F', _, h3, h4, h5⟩, k, hk => by
    subst h3
    rcases List.mem_append.1 hk with hk | hk
    · exact hR _ _ _ _ h4 k hk
    · exact OwFlds.mem hR h5 k hk
  | [], _ :: _, _, _, _, h, _, _ => h.elim
  | _ :: _, [], _, _, _, h, _, _ => h.elim
theorem Ow.lt : ∀ {n : Nat} {t : TypeId} {pv : PV} {cs : List Value} {F : List Nat}, Ow P w n t pv cs F → ∀ k ∈ F, k < w.heap.size
  | 0, _, _, _, _, h => h.elim
  | n + 1, t, pv, cs, F, h => by
    unfold Ow at h
    split at h
    · rw [h.2]; simp
    · rw [h.2]; simp
    · rw [h.2]; simp
    · obtain ⟨v, xs, ps, F', h1, h2, h3, h4, h5⟩ := h
      subst h4
      intro k hk
      rcases List.mem_append.1 hk with hk | hk
      · exact ownsR_lt h3 k (by simpa using hk)
      · exact h5.mem (fun p c f hp => Ow.lt hp) k hk
    · obtain ⟨ps, h1, h2⟩ := h
      exact h2.mem (fun t p c f hp => Ow.lt hp)
    · rw [h.2]; simp
    · exact h.elim

/-! Types of one build -/
theorem listEq_eq : ∀ {a b : List Nat}, listEq a b = true → a = b
  | [], [], _ => rfl
  | x :: a, y :: b, h => by
    simp only [listEq, Bool.and_eq_true, Nat.beq_eq] at h
    rw [h.1, listEq_eq h.2]
  | [], _ :: _, h => by simp [listEq] at h
  | _ :: _, [], h => by simp [listEq] at h
theorem TK.same_eq : ∀ {a b : TK}, a.same b = true → a = b := by
  intro a b h
  cases a <;> cases b <;> simp only [TK.same, decide_eq_true_eq, Nat.beq_eq, reduceCtorEq, Bool.false_eq_true] at h <;> first | rfl | (rw [h]) | (rw [listEq_eq h])
theorem alike_tk (h : alike P t u = true) : tk P t = tk P u := TK.same_eq h
def sumSz (P : Program) (fs : List TypeId) : Nat := (fs.map (sizeOf P)).sum
theorem laid_sum : ∀ {o n : Nat} {fs : List Field}, laid P o fs n = true → n = o + sumSz P (fs.map (·.type))
  | o, n, [], h => by simp [laid, Nat.beq_eq] at h; simp [sumSz, h]
  | o, n, f :: r, h => by
    simp only [laid, Bool.and_eq_true] at h
    have := laid_sum h.2
    simp [sumSz] at this ⊢
    omega
/-- How many cells a kind takes. -/
def TK.sz (P : Program) : TK → Nat
  | .struct fs => sumSz P fs
  | _ => 1
theorem tk_one {x : TK} (hx : ∀ fs, x ≠ .struct fs) {b : Bool} (hb : b = true → sizeOf P t = 1) (h : (bif b then x else .bad) ≠ .bad) : sizeOf P t = (bif b then x else .bad).sz P := by
  cases b
  · exact absurd rfl h
  · simp only [cond_true]
    rw [hb rfl]
    cases x <;> first | rfl | exact absurd rfl (hx _)
theorem tk_size (h : tk P t ≠ .bad) : sizeOf P t = (tk P t).sz P := by
  unfold tk at h ⊢
  cases hu : P.underlying t with
  | none => simp [hu] at h
  | some d =>
    have one1 : ∀ x : TK, (∀ fs, x ≠ .struct fs) → (bif Nat.beq (sizeOf P t) 1 then x else .bad) ≠ .bad → sizeOf P t = (bif Nat.beq (sizeOf P t) 1 then x else .bad).sz P :=
      fun x hx => tk_one hx (fun hb => by simpa [Nat.beq_eq] using hb)
    cases d <;> simp only [hu] at h ⊢
    case struct fs =>
      cases hl : laid P 0 fs.toList (sizeOf P t)
      · rw [hl] at h; exact absurd rfl h
      · simp only [cond_true, TK.sz]
        have := laid_sum hl
        simpa using this
    case slice e =>
      exact tk_one (fun _ => by simp) (fun hb => by simp [Nat.beq_eq] at hb; exact hb.1) h
    case array n e =>
      cases hf : arrFit P t n e <;> rw [hf] at h
      · exact absurd rfl h
      · simp only [arrFit, Bool.and_eq_true, Nat.beq_eq] at hf
        simp only [cond_true, TK.sz, sumSz, List.map_replicate, List.sum_replicate_nat, hf.1.1, hf.1.2, Nat.mul_one]
    all_goals exact one1 _ (fun _ => by simp) h
theorem alike_size (h : alike P t u = true) (hb : tk P t ≠ .bad) : sizeOf P t = sizeOf P u := by
  rw [tk_size hb, alike_tk h, ← tk_size (alike_tk h ▸ hb)]
theorem Rd.alike (ha : alike P t u = true) : ∀ {n : Nat}, Rd P ok w n t pv cs → Rd P ok w n u pv cs
  | 0, h => h.elim
  | n + 1, h => by unfold Rd at h ⊢; rw [← alike_tk ha]; exact h
theorem Ow.alike (ha : alike P t u = true) : ∀ {n : Nat}, Ow P w n t pv cs F → Ow P w n u pv cs F
  | 0, h => h.elim
  | n + 1, h => by unfold Ow at h ⊢; rw [← alike_tk ha]; exact h
theorem alike_symm (h : alike P t u = true) : alike P u t = true := by
  have := alike_tk h
  unfold alike at h ⊢
  rw [this] at h ⊢
  exact h
theorem Rd.good : ∀ {n : Nat}, Rd P ok w n t pv cs → tk P t ≠ .bad
  | 0, h => h.elim
  | n + 1, h => fun hb => by unfold Rd at h; rw [hb] at h; exact h
theorem Ow.good : ∀ {n : Nat}, Ow P w n t pv cs F → tk P t ≠ .bad
  | 0, h => h.elim
  | n + 1, h => fun hb => by unfold Ow at h; rw [hb] at h; exact h
/-! Owned is readable -/
theorem OwSeq.row {R : PV → List Value → List Nat → Prop} {sz : Nat} : ∀ {ps : List PV} {xs : List Value} {F : List Nat}, OwSeq R sz ps xs F → ∀ j p, ps[j]? = some p → ∃ c f, c.length = sz ∧ (∀ q u, c[q]? = some u → xs[j * sz + q]? = some u) ∧ (∀ k ∈ f, k ∈ F) ∧ R p c f
  | [], _, _, _, j, p, hj => by simp at hj
  | p0 :: ps, xs, F, ⟨c, cs', f, F', h1, h2, h3, h4, h5⟩, 0, p, hj => by
    simp at hj; subst hj
    refine ⟨c, f, h2, fun q u hq => ?_, fun k hk => h3 ▸ List.mem_append_left _ hk, h4⟩
    rw [h1, Nat.zero_mul, Nat.zero_add, List.getElem?_append_left (List.getElem?_eq_some_iff.1 hq).1]; exact hq
  | p0 :: ps, xs, F, ⟨c, cs', f, F', h1, h2, h3, h4, h5⟩, j + 1, p, hj => by
    obtain ⟨c1, f1, a1, a2, a3, a4⟩ := OwSeq.row h5 j p (by simpa using hj)
    refine ⟨c1, f1, a1, fun q u hq => ?_, fun k hk => h3 ▸ List.mem_append_right _ (a3 k hk), a4⟩
    rw [h1, List.getElem?_append_right (by rw [h2, Nat.add_mul]; omega), ← a2 q u hq]
    congr 1; rw [h2, Nat.add_mul]; omega
theorem ownsR_cells {e : TypeId} {size n : Nat} {v : Value} {xs : List Value} (h : ownsR w e size v n xs) {g : Nat} (hg : v.ownBlock = some g) : ∀ j u, xs[j]? = some u → w.cell? ((⟨g, 0, none⟩ : Addr).add j) = some u := by
  intro j u hu
  rcases h.2 with ⟨rfl, _⟩ | ⟨g', cap, cur, fz, rfl, _, hh, _, _, _, htk⟩
  · simp [Value.ownBlock] at hg
  · simp [Value.ownBlock] at hg
    subst hg
    have hadd : (⟨g', 0, none⟩ : Addr).add j = ⟨g', j, none⟩ := by unfold Addr.add; split <;> simp_all
    rw [hadd]
    rw [← htk, List.getElem?_take] at hu
    split at hu
    · simpa [World.cell?, hh] using hu
    · cases hu
theorem ownsRow_cell {e : TypeId} {size n : Nat} {v : Value} {xs : List Value} (h : ownsR w e size v n xs) {A : Option Addr} {l cap : Nat} (hv : v = .slice A l cap) (h0 : 0 < n) : l = n ∧ n ≤ cap ∧ ∃ g, A = some ⟨g, 0, none⟩ ∧ v.ownBlock = some g ∧ ∀ j u, xs[j]? = some u → w.cell? ((⟨g, 0, none⟩ : Addr).add j) = some u := by
  rcases h.2 with ⟨rfl, rfl⟩ | ⟨g, cap', cur, fz, hv', hg, hh, hn, r⟩
  · omega
  · have := hv.symm.trans hv'
    injection this with h1 h2 h3
    subst h1 h2 h3
    exact ⟨rfl, hn, g, rfl, by rw [hv']; rfl, ownsR_cells h (by rw [hv']; rfl)⟩
theorem ownsRow_slice {e : TypeId} {size n : Nat} {v : Value} {xs : List Value} (h : ownsR w e size v n xs) : ∃ A cap, v = .slice A n cap ∧ n ≤ cap := by
  rcases h.2 with ⟨rfl, rfl⟩ | ⟨g, cap', cur, fz, hv', hg, hh, hn, r⟩
  · exact ⟨none, 0, rfl, Nat.le_refl _⟩
  · exact ⟨_, _, hv', hn⟩
theorem OwFlds.flds {R : TypeId → PV → List Value → List Nat → Prop} {R' : TypeId → PV → List Value → Prop} : ∀ {ts : List TypeId} {ps : List PV} {cs : List Value} {F : List Nat}, (∀ t p c f, (∀ k ∈ f, k ∈ F) → R t p c f → R' t p c) → OwFlds R ts ps cs F → Flds R' ts ps cs
  | [], [], _, _, _, h => h.1
  | _ :: _, _ :: _, _, _, hR, ⟨c, cs', _, _, h1, h3, h4, h5⟩ => ⟨c, cs', h1, hR _ _ _ _ (fun k hk => h3 ▸ List.mem_append_left _ hk) h4, OwFlds.flds (fun t p c f hf => hR t p c f (fun k hk => h3 ▸ List.mem_append_right _ (hf k hk))) h5⟩
  | [], _ :: _, _, _, _, h => h.elim
  | _ :: _, [], _, _, _, h => h.elim
theorem Ow.rd : ∀ {n : Nat} {t : TypeId} {pv : PV} {cs : List Value} {F : List Nat}, (∀ k ∈ F, ok k) → Ow P w n t pv cs F → Rd P ok w n t pv cs
  | 0, _, _, _, _, _, h => h.elim
  | n + 1, t, pv, cs, F, hF, h => by
    unfold Ow at h
    unfold Rd
    split <;> rename_i ht <;> simp only [ht] at h
    · exact h.1
    · exact h.1
    · exact h.1
    · obtain ⟨v, xs, ps, F', h1, h2, h3, h4, h5⟩ := h
      obtain ⟨A, cap, hv, hc⟩ := ownsRow_slice h3
      refine ⟨A, cap, ps, by rw [h1, hv], h2, hc, fun h0 => ?_⟩
      obtain ⟨_, _, g, hA, hb, hcell⟩ := ownsRow_cell h3 hv h0
      refine ⟨⟨g, 0, none⟩, hA, hF _ (by rw [h4, hb]; simp), fun j p hj => ?_⟩
      obtain ⟨c, f, a1, a2, a3, a4⟩ := h5.row j p hj
      exact ⟨c, a1, fun q u hq => hcell _ _ (a2 q u hq), Ow.rd (fun k hk => hF k (by rw [h4]; exact List.mem_append_right _ (a3 k hk))) a4⟩
    · obtain ⟨ps, h1, h2⟩ := h
      exact ⟨ps, h1, h2.flds (fun t p c f hf hp => Ow.rd (fun k hk => hF k (hf k hk)) hp)⟩
    · exact h.1
/-! The cells -/
theorem Flds.len {R : TypeId → PV → List Value → Prop} (hR : ∀ t p c, R t p c → c.length = sizeOf P t) : ∀ {ts : List TypeId} {ps : List PV} {cs : List Value}, Flds R ts ps cs → cs.length = sumSz P ts
  | [], [], _, h => by rw [show _ = [] from h]; rfl
  | t :: ts, _ :: _, _, ⟨c, cs', h1, h2, h3⟩ => by
    rw [h1, List.length_append, hR _ _ _ h2, Flds.len hR h3]; simp [sumSz]
  | [], _ :: _, _, h => h.elim
  | _ :: _, [], _, h => h.elim
theorem Flds.ones {R : TypeId → PV → List Value → Prop} (hR : ∀ t p c, R t p c → ∀ u ∈ c, one u = true) : ∀ {ts : List TypeId} {ps : List PV} {cs : List Value}, Flds R ts ps cs → ∀ u ∈ cs, one u = true
  | [], [], _, h, u, hu => by rw [show _ = [] from h] at hu; cases hu
  | t :: ts, _ :: _, _, ⟨c, cs', h1, h2, h3⟩, u, hu => by
    subst h1
    rcases List.mem_append.1 hu with hu | hu
    · exact hR _ _ _ h2 u hu
    · exact Flds.ones hR h3 u hu
  | [], _ :: _, _, h, _, _ => h.elim
  | _ :: _, [], _, h, _, _ => h.elim
theorem Rd.len : ∀ {n : Nat} {t : TypeId} {pv : PV} {cs : List Value}, Rd P ok w n t pv cs → cs.length = sizeOf P t
  | 0, _, _, _, h => h.elim
  | n + 1, t, pv, cs, h => by
    rw [tk_size h.good]
    unfold Rd at h
    split at h <;> rename_i ht
    · obtain ⟨_, _, rfl⟩ := h; rw [ht]; rfl
    · obtain ⟨_, _, rfl⟩ := h; rw [ht]; rfl
    · obtain ⟨_, _, rfl⟩ := h; rw [ht]; rfl
    · obtain ⟨_, _, _, rfl, _⟩ := h; rw [ht]; rfl
    · obtain ⟨ps, h1, h2⟩ := h
      rw [ht]; exact h2.len (fun t p c hp => Rd.len hp)
    · obtain ⟨_, _, rfl, _⟩ := h; rw [ht]; rfl
    · exact h.elim
theorem Rd.ones : ∀ {n : Nat} {t : TypeId} {pv : PV} {cs : List Value}, Rd P ok w n t pv cs → ∀ u ∈ cs, one u = true
  | 0, _, _, _, h => h.elim
  | n + 1, t, pv, cs, h => by
    unfold Rd at h
    split at h <;> rename_i ht
    · obtain ⟨_, _, rfl⟩ := h; simp [one, Value.oneCell']
    · obtain ⟨_, _, rfl⟩ := h; simp [one, Value.oneCell']
    · obtain ⟨_, _, rfl⟩ := h; simp [one, Value.oneCell']
    · obtain ⟨_, _, _, rfl, _⟩ := h; simp [one, Value.oneCell']
    · obtain ⟨ps, h1, h2⟩ := h
      exact h2.ones (fun t p c hp => Rd.ones hp)
    · obtain ⟨_, _, rfl, h3⟩ := h; simpa using h3
    · exact h.elim
theorem Ow.len (h : Ow P w n t pv cs F) : cs.length = sizeOf P t := (h.rd (ok := fun _ => True) (fun _ _ => trivial)).len
theorem Ow.ones (h : Ow P w n t pv cs F) : ∀ u ∈ cs, one u = true := (h.rd (ok := fun _ => True) (fun _ _ => trivial)).ones
end
end Go.Proofs.YtfbkfhdlingedaaAm

/-! Places inside what is owned: where a path leads, what lies there, and what a write there makes of the whole. -/
namespace Go.Proofs.YtfbkfhdlingedaaAm
open Go RowKit

def Loc (w : World) (a : Addr) (cs : List Value) : Prop := ∀ q u, cs[q]? = some u → w.cell? (a.add q) = some u
def offOf (P : Program) (fs : List TypeId) (i : Nat) : Nat := sumSz P (fs.take i)
/-- From an object of type t at a, along a path, to an object of type t' at a'. -/
def Plc (P : Program) (w : World) : TypeId → Addr → List Stp → TypeId → Addr → Prop
  | t, a, [], t', a' => t' = t ∧ a' = a
  | t, a, .fld i :: r, t', a' => ∃ fs f, tk P t = .struct fs ∧ fs[i]? = some f ∧ Plc P w f (a.add (offOf P fs i)) r t' a'
  | t, a, .idx j :: r, t', a' => ∃ e A len cap, tk P t = .slice e ∧ w.cell? a = some (.slice (some A) len cap) ∧ j < len ∧ Plc P w e (A.add (j * sizeOf P e)) r t' a'

section
variable {P : Program} {w w' : World} {n : Nat} {t t' u : TypeId} {pv : PV} {cs : List Value} {F : List Nat} {a a' : Addr} {p : List Stp}
theorem add_add (a : Addr) (i j : Nat) : (a.add i).add j = a.add (i + j) := by
  unfold Addr.add
  by_cases hi : i = 0
  · subst hi; simp
  · by_cases hj : j = 0
    · subst hj; simp [hi]
    · simp [hi, hj, show i + j ≠ 0 by omega]; omega
theorem add_zero (a : Addr) : a.add 0 = a := by simp [Addr.add]
theorem add_block (a : Addr) (i : Nat) : (a.add i).block = a.block := by unfold Addr.add; split <;> rfl
theorem OwFlds.get {R : TypeId → PV → List Value → List Nat → Prop} (hR : ∀ t p c f, R t p c f → c.length = sizeOf P t) : ∀ {ts : List TypeId} {ps : List PV} {cs : List Value} {F : List Nat} {i : Nat} {f : TypeId}, OwFlds R ts ps cs F → ts[i]? = some f →
    ∃ p A c B F1 F2 F3, ps[i]? = some p ∧ cs = A ++ c ++ B ∧ A.length = offOf P ts i ∧ c.length = sizeOf P f ∧ F = F1 ++ F2 ++ F3 ∧ R f p c F2 ∧
      ∀ {R' : TypeId → PV → List Value → List Nat → Prop} {p' c' F2'}, (∀ t p c k, (∀ x ∈ k, x ∈ F1 ++ F3) → R t p c k → R' t p c k) → R' f p' c' F2' → OwFlds R' ts (ps.set i p') (A ++ c' ++ B) (F1 ++ F2' ++ F3)
  | [], _, _, _, i, f, h, hi => by simp at hi
  | _ :: _, [], _, _, _, _, h, _ => h.elim
  | t :: ts, p :: ps, cs, F, 0, f, ⟨c, cs', f1, F', h1, h3, h4, h5⟩, hi => by
    simp at hi; subst hi
    refine ⟨p, [], c, cs', [], f1, F', rfl, by simpa using h1, rfl, hR _ _ _ _ h4, by simpa using h3, h4, fun hRR hp => ?_⟩
    exact ⟨_, cs', _, F', by simp, by simp, hp, h5.imp (fun t p c k hk hp => hRR t p c k (by simpa using hk) hp)⟩
  | t :: ts, p :: ps, cs, F, i + 1, f, ⟨c, cs', f1, F', h1, h3, h4, h5⟩, hi => by
    obtain ⟨p1, A, c1, B, F1, F2, F3, a1, a2, a3, a4, a5, a6, a7⟩ := OwFlds.get hR h5 (by simpa using hi)
    refine ⟨p1, c ++ A, c1, B, f1 ++ F1, F2, F3, by simpa using a1, by rw [h1, a2]; simp, ?_, a4, by rw [h3, a5]; simp, a6, fun hRR hp => ?_⟩
    · simp [offOf, sumSz, hR _ _ _ _ h4]; simpa [offOf, sumSz] using a3
    · refine ⟨c, A ++ _ ++ B, f1, F1 ++ _ ++ F3, by simp, by simp, hRR _ _ _ _ (fun x hx => by simp [hx]) h4, a7 (fun t p c k hk hp => hRR t p c k (fun x hx => ?_) hp) hp⟩
      have := hk x hx
      simp at this ⊢
      rcases this with h | h
      · exact .inr (.inl h)
      · exact .inr (.inr h)
theorem OwSeq.get {R : PV → List Value → List Nat → Prop} {sz : Nat} : ∀ {ps : List PV} {xs : List Value} {F : List Nat} {j : Nat} {p : PV}, OwSeq R sz ps xs F → ps[j]? = some p →
    ∃ A c B F1 F2 F3, xs = A ++ c ++ B ∧ A.length = j * sz ∧ c.length = sz ∧ F = F1 ++ F2 ++ F3 ∧ R p c F2 ∧
      ∀ {R' : PV → List Value → List Nat → Prop} {p' c' F2'}, c'.length = sz → (∀ p c k, (∀ x ∈ k, x ∈ F1 ++ F3) → R p c k → R' p c k) → R' p' c' F2' → OwSeq R' sz (ps.set j p') (A ++ c' ++ B) (F1 ++ F2' ++ F3)
  | [], _, _, j, p, h, hj => by simp at hj
  | p0 :: ps, xs, F, 0, p, ⟨c, cs', f, F', h1, h2, h3, h4, h5⟩, hj => by
    simp at hj; subst hj
    refine ⟨[], c, cs', [], f, F', by simpa using h1, by simp, h2, by simpa using h3, h4, fun hl hRR hp => ?_⟩
    exact ⟨_, cs', _, F', by simp, hl, by simp, hp, h5.imp (fun p c k hk hp => hRR p c k (by simpa using hk) hp)⟩
  | p0 :: ps, xs, F, j + 1, p, ⟨c, cs', f, F', h1, h2, h3, h4, h5⟩, hj => by
    obtain ⟨A, c1, B, F1, F2, F3, a2, a3, a4, a5, a6, a7⟩ := OwSeq.get h5 (by simpa using hj)
    refine ⟨c ++ A, c1, B, f ++ F1, F2, F3, by rw [h1, a2]; simp, ?_, a4, by rw [h3, a5]; simp, a6, fun hl hRR hp => ?_⟩
    · rw [List.length_append, h2, a3, Nat.add_mul]; omega
    · refine ⟨c, A ++ _ ++ B, f, F1 ++ _ ++ F3, by simp, h2, by simp, hRR _ _ _ (fun x hx => by simp [hx]) h4, a7 hl (fun p c k hk hp => hRR p c k (fun x hx => ?_) hp) hp⟩
      have := hk x hx
      simp at this ⊢
      rcases this with h | h
      · exact .inr (.inl h)
      · exact .inr (.inr h)
theorem Loc.app {A c B : List Value} (h : Loc w a (A ++ c ++ B)) : Loc w (a.add A.length) c := by
  intro q u hq
  rw [add_add]
  refine h _ _ ?_
  have hlt := (List.getElem?_eq_some_iff.1 hq).1
  rw [List.getElem?_append_left (by simp; omega), List.getElem?_append_right (by omega)]
  simpa using hq
/-- What lies at a place. -/
theorem Ow.get : ∀ {p : List Stp} {n : Nat} {t : TypeId} {pv : PV} {cs : List Value} {F : List Nat} {a : Addr}, Ow P w n t pv cs F → Loc w a cs → Plc P w t a p t' a' →
    ∃ m cs' F', Ow P w m t' (pv.at p) cs' F' ∧ Loc w a' cs' ∧ (∀ k ∈ F', k ∈ F) ∧ (a'.block = a.block ∨ a'.block ∈ F)
  | [], n, t, pv, cs, F, a, h, hl, hp => by
    obtain ⟨rfl, rfl⟩ := hp
    exact ⟨n, cs, F, h, hl, fun _ hk => hk, .inl rfl⟩
  | .fld i :: r, 0, t, pv, cs, F, a, h, hl, hp => h.elim
  | .idx i :: r, 0, t, pv, cs, F, a, h, hl, hp => h.elim
  | .fld i :: r, n + 1, t, pv, cs, F, a, h, hl, hp => by
    obtain ⟨fs, f, h1, h2, h3⟩ := hp
    unfold Ow at h
    simp only [h1] at h
    obtain ⟨ps, rfl, h5⟩ := h
    obtain ⟨q, A, c, B, F1, F2, F3, a1, a2, a3, a4, a5, a6, _⟩ := h5.get (P := P) (fun t p c f hp => hp.len) h2
    subst a2
    obtain ⟨m, cs', F', b1, b2, b3, b4⟩ := Ow.get a6 (a3 ▸ hl.app) h3
    refine ⟨m, cs', F', ?_, b2, fun k hk => ?_, ?_⟩
    · simpa [PV.at, PV.fld, PV.parts, List.getD_eq_getElem?_getD, a1] using b1
    · rw [a5]; have := b3 k hk; simp [this]
    · rcases b4 with b4 | b4
      · exact .inl (b4.trans (add_block _ _))
      · right; rw [a5]; simp [b4]
  | .idx j :: r, n + 1, t, pv, cs, F, a, h, hl, hp => by
    obtain ⟨e, A, len, cap, h1, h2, h3, h4⟩ := hp
    unfold Ow at h
    simp only [h1] at h
    obtain ⟨v, xs, ps, F', rfl, rfl, h7, rfl, h9⟩ := h
    have hv : v = .slice (some A) len cap := by
      have := hl 0 v rfl
      rw [add_zero, h2] at this
      exact (Option.some.inj this).symm
    obtain ⟨A', cap', hv', hcap⟩ := ownsRow_slice h7
    have hlen : len = ps.length := by rw [hv] at hv'; injection hv'
    have h0 : 0 < ps.length := by omega
    obtain ⟨_, _, g, hA, hb, hcell⟩ := ownsRow_cell h7 hv h0
    have hA : A = ⟨g, 0, none⟩ := Option.some.inj hA
    subst hA
    obtain ⟨q, hq⟩ : ∃ q, ps[j]? = some q := ⟨ps[j]'(by omega), by simp⟩
    obtain ⟨A1, c, B, F1, F2, F3, a2, a3, a4, a5, a6, _⟩ := h9.get hq
    have hl' : Loc w ((⟨g, 0, none⟩ : Addr).add (j * sizeOf P e)) c := by
      have : Loc w (⟨g, 0, none⟩ : Addr) (A1 ++ c ++ B) := fun q u hq => hcell q u (a2 ▸ hq)
      exact a3 ▸ this.app
    obtain ⟨m, cs', F'', b1, b2, b3, b4⟩ := Ow.get a6 hl' h4
    refine ⟨m, cs', F'', ?_, b2, fun k hk => ?_, ?_⟩
    · simpa [PV.at, PV.elem, PV.items, List.getD_eq_getElem?_getD, hq] using b1
    · rw [a5]; have := b3 k hk; simp [this]
    · right
      rcases b4 with b4 | b4
      · rw [b4, add_block, hb]; simp
      · rw [a5]; simp [b4]
/-- A path leads to the same place where the owned blocks stayed. -/
theorem Plc.frame : ∀ {p : List Stp} {n : Nat} {t : TypeId} {pv : PV} {cs : List Value} {F : List Nat} {a : Addr}, Ow P w n t pv cs F → Loc w a cs → (∀ k ∈ F, w'.heap[k]? = w.heap[k]?) → Loc w' a cs → Plc P w t a p t' a' → Plc P w' t a p t' a'
  | [], _, _, _, _, _, _, _, _, _, _, hp => hp
  | .fld i :: r, 0, t, pv, cs, F, a, h, hl, hF, hl', hp => h.elim
  | .idx i :: r, 0, t, pv, cs, F, a, h, hl, hF, hl', hp => h.elim
  | .fld i :: r, n + 1, t, pv, cs, F, a, h, hl, hF, hl', hp => by
    obtain ⟨fs, f, h1, h2, h3⟩ := hp
    refine ⟨fs, f, h1, h2, ?_⟩
    unfold Ow at h
    simp only [h1] at h
    obtain ⟨ps, rfl, h5⟩ := h
    obtain ⟨q, A, c, B, F1, F2, F3, a1, a2, a3, a4, a5, a6, _⟩ := h5.get (P := P) (fun t p c f hp => hp.len) h2
    subst a2
    exact Plc.frame a6 (a3 ▸ hl.app) (fun k hk => hF k (by rw [a5]; simp [hk])) (a3 ▸ hl'.app) h3
  | .idx j :: r, n + 1, t, pv, cs, F, a, h, hl, hF, hl', hp => by
    obtain ⟨e, A, len, cap, h1, h2, h3, h4⟩ := hp
    unfold Ow at h
    simp only [h1] at h
    obtain ⟨v, xs, ps, F', rfl, rfl, h7, rfl, h9⟩ := h
    have hv : v = .slice (some A) len cap := by
      have := hl 0 v rfl
      rw [add_zero, h2] at this
      exact (Option.some.inj this).symm
    refine ⟨e, A, len, cap, h1, by have := hl' 0 v rfl; rw [add_zero] at this; rw [this, hv], h3, ?_⟩
    obtain ⟨A', cap', hv', hcap⟩ := ownsRow_slice h7
    have hlen : len = ps.length := by rw [hv] at hv'; injection hv'
    have h0 : 0 < ps.length := by omega
    obtain ⟨_, _, g, hA, hb, hcell⟩ := ownsRow_cell h7 hv h0
    have h7' : ownsR w' e (sizeOf P e) v ps.length xs := ownsRow_move h7 (fun k hk => hF k (by rw [hk]; simp))
    obtain ⟨_, _, g', hA', hb', hcell'⟩ := ownsRow_cell h7' hv h0
    have hA : A = ⟨g, 0, none⟩ := Option.some.inj hA
    subst hA
    have : g' = g := by rw [hb] at hb'; exact (Option.some.inj hb').symm
    subst this
    obtain ⟨q, hq⟩ : ∃ q, ps[j]? = some q := ⟨ps[j]'(by omega), by simp⟩
    obtain ⟨A1, c, B, F1, F2, F3, a2, a3, a4, a5, a6, _⟩ := h9.get hq
    have hl1 : Loc w (⟨g', 0, none⟩ : Addr) (A1 ++ c ++ B) := fun q u hq => hcell q u (a2 ▸ hq)
    have hl2 : Loc w' (⟨g', 0, none⟩ : Addr) (A1 ++ c ++ B) := fun q u hq => hcell' q u (a2 ▸ hq)
    exact Plc.frame a6 (a3 ▸ hl1.app) (fun k hk => hF k (by rw [a5]; simp [hk])) (a3 ▸ hl2.app) h4

/-! ### Writing -/
def patch (l : List Value) (o : Nat) (c : List Value) : List Value := l.take o ++ c ++ l.drop (o + c.length)
/-- Only cells of one block are new: c, from a on. -/
structure Patched (w w' : World) (a : Addr) (c : List Value) : Prop where
  spot : a.spot = none
  here : ∀ cur e fz, w.heap[a.block]? = some (.cells cur e fz) → ∃ cur', w'.heap[a.block]? = some (.cells cur' e fz) ∧ cur'.toList = patch cur.toList a.off c
  rest : ∀ k, k ≠ a.block → w'.heap[k]? = w.heap[k]?
theorem patch_len {l c : List Value} {o : Nat} (h : o + c.length ≤ l.length) : (patch l o c).length = l.length := by simp [patch]; omega
theorem patch_mid {A c B d : List Value} {o : Nat} (h : o + d.length ≤ c.length) : patch (A ++ c ++ B) (A.length + o) d = A ++ patch c o d ++ B := by
  have e1 : (A ++ c ++ B).take (A.length + o) = A ++ c.take o := by
    rw [List.append_assoc, List.take_append, List.take_of_length_le (by omega), Nat.add_sub_cancel_left, List.take_append_of_le_length (by omega)]
  have e2 : (A ++ c ++ B).drop (A.length + o + d.length) = c.drop (o + d.length) ++ B := by
    rw [List.append_assoc, List.drop_append, List.drop_eq_nil_of_le (by omega), List.nil_append, show A.length + o + d.length - A.length = o + d.length by omega, List.drop_append_of_le_length (by omega)]
  unfold patch
  rw [e1, e2]
  simp
theorem patch_take {l c : List Value} {o m : Nat} (h : o + c.length ≤ m) (hm : m ≤ l.length) : (patch l o c).take m = patch (l.take m) o c := by
  unfold patch
  have h1 : (l.take o ++ c).length = o + c.length := by simp; omega
  rw [List.take_append, List.take_of_length_le (by omega), h1, List.take_take, Nat.min_eq_left (by omega), List.drop_take]
theorem add_none (g k j : Nat) : (⟨g, k, none⟩ : Addr).add j = ⟨g, k + j, none⟩ := by unfold Addr.add; split <;> simp_all
theorem Ow.put {v' : PV} {c' : List Value} {F' : List Nat} {m : Nat} (hw : Patched w w' a' c') (hlen : c'.length = sizeOf P t') (hnew : Ow P w' m t' v' c' F') : ∀ {p : List Stp} {n : Nat} {t : TypeId} {pv : PV} {cs : List Value} {F : List Nat} {g k : Nat},
    Ow P w n t pv cs F → Loc w ⟨g, k, none⟩ cs → F.Nodup → g ∉ F → Plc P w t ⟨g, k, none⟩ p t' a' →
    ∃ N cs1 F1, Ow P w' N t (pv.setAt p v') cs1 F1 ∧ (a'.block = g → ∃ o, a' = ⟨g, k + o, none⟩ ∧ o + c'.length ≤ cs.length ∧ cs1 = patch cs o c') ∧ (a'.block ≠ g → cs1 = cs) ∧ cs1.length = cs.length ∧
      (∀ x ∈ F1, x ∈ F ∨ x ∈ F') ∧ (F'.Nodup → (∀ x ∈ F', x ∉ F) → F1.Nodup)
  | [], n, t, pv, cs, F, g, k, h, hl, hnd, hg, hp => by
    obtain ⟨rfl, rfl⟩ := hp
    have hcl : c'.length = cs.length := hlen.trans h.len.symm
    refine ⟨m, c', F', hnew, fun _ => ⟨0, rfl, by omega, ?_⟩, fun hne => absurd rfl hne, hcl, fun x hx => .inr hx, fun h1 _ => h1⟩
    simp [patch, hcl]
  | .fld i :: r, 0, t, pv, cs, F, g, k, h, hl, hnd, hg, hp => h.elim
  | .idx i :: r, 0, t, pv, cs, F, g, k, h, hl, hnd, hg, hp => h.elim
  | .fld i :: r, n + 1, t, pv, cs, F, g, k, h, hl, hnd, hg, hp => by
    obtain ⟨fs, f, h1, h2, h3⟩ := hp
    unfold Ow at h
    simp only [h1] at h
    obtain ⟨ps, rfl, h5⟩ := h
    obtain ⟨q, A, c, B, F1, F2, F3, a1, a2, a3, a4, a5, a6, a7⟩ := h5.get (P := P) (fun t p c f hp => hp.len) h2
    subst a2 a5
    have hl' := hl.app
    rw [add_none] at hl'
    rw [← a3, add_none] at h3
    have hnd2 : F2.Nodup := (List.nodup_append.1 (List.nodup_append.1 hnd).1).2.1
    obtain ⟨N, cs1, G1, b1, b2, b3, b4, b5, b6⟩ := Ow.put hw hlen hnew a6 hl' hnd2 (fun hx => hg (by simp [hx])) h3
    have hrest : ∀ t p c k, (∀ x ∈ k, x ∈ F1 ++ F3) → Ow P w n t p c k → Ow P w' (max n N) t p c k := fun t p c k hk hp => by
      refine (Ow.frame (fun x hx => hw.rest x (fun he => ?_)) hp).le (Nat.le_max_left _ _)
      have hx1 := hk x hx
      obtain ⟨_, _, _, _, _, d3, d4⟩ := Ow.get a6 hl' h3
      subst he
      rcases d4 with d4 | d4
      · exact hg (by rw [d4] at hx1; simp at hx1 ⊢; rcases hx1 with h | h <;> simp [h])
      · simp only [List.nodup_append, List.mem_append] at hnd hx1
        rcases hx1 with h | h
        · exact hnd.1.2.2 _ h _ d4 rfl
        · exact hnd.2.2 _ (.inr d4) _ h rfl
    refine ⟨max n N + 1, A ++ cs1 ++ B, F1 ++ G1 ++ F3, ?_, fun he => ?_, fun hne => by rw [b3 hne], by simp [b4], fun x hx => ?_, fun e1 e2 => ?_⟩
    · unfold Ow
      simp only [h1]
      refine ⟨_, rfl, ?_⟩
      have := a7 hrest (b1.le (Nat.le_max_right _ _))
      simpa [PV.parts, PV.fld, List.getD_eq_getElem?_getD, a1] using this
    · obtain ⟨o, d1, d2, d3⟩ := b2 he
      refine ⟨A.length + o, by rw [d1]; simp [Nat.add_assoc], by simp; omega, by rw [d3, patch_mid d2]⟩
    · simp only [List.mem_append] at hx ⊢
      rcases hx with (h | h) | h
      · simp [h]
      · rcases b5 x h with h | h <;> simp [h]
      · simp [h]
    · have hG := b6 e1 (fun x hx hx' => e2 x hx (by simp [hx']))
      simp only [List.nodup_append, List.mem_append] at hnd ⊢
      refine ⟨⟨hnd.1.1, hG, fun x hx y hy he => ?_⟩, hnd.2.1, fun x hx y hy he => ?_⟩
      · subst he
        rcases b5 x hy with h | h
        · exact hnd.1.2.2 x hx x h rfl
        · exact e2 x h (by simp [hx])
      · subst he
        rcases hx with hx | hx
        · exact hnd.2.2 x (.inl hx) x hy rfl
        · rcases b5 x hx with h | h
          · exact hnd.2.2 x (.inr h) x hy rfl
          · exact e2 x h (by simp [hy])
  | .idx j :: r, n + 1, t, pv, cs, F, g0, k, h, hl, hnd, hg, hp => by
    obtain ⟨e, A, len, cap, h1, h2, h3, h4⟩ := hp
    unfold Ow at h
    simp only [h1] at h
    obtain ⟨v, xs, ps, F0, rfl, rfl, h7, rfl, h9⟩ := h
    have hv : v = .slice (some A) len cap := by
      have := hl 0 v rfl
      rw [add_zero, h2] at this
      exact (Option.some.inj this).symm
    rcases h7.2 with ⟨rfl, h0⟩ | ⟨g, cap', cur, fz, hv', hfz, hh, hcap, hmax, hsz, htk⟩
    · cases hv
    · have hvv := hv.symm.trans hv'
      injection hvv with e1 e2 e3
      have hA : A = ⟨g, 0, none⟩ := Option.some.inj e1
      subst hA e2 e3
      have hob : v.ownBlock = some g := by rw [hv']; rfl
      have hcell := ownsR_cells h7 hob
      rw [hob] at hnd hg ⊢
      obtain ⟨q, hq⟩ : ∃ q, ps[j]? = some q := ⟨ps[j]'(by omega), by simp⟩
      obtain ⟨A1, c, B, F1, F2, F3, a2, a3, a4, a5, a6, a7⟩ := h9.get hq
      subst a5
      have hl0 : Loc w (⟨g, 0, none⟩ : Addr) (A1 ++ c ++ B) := fun q u hq => hcell q u (a2 ▸ hq)
      have hl' := hl0.app
      rw [add_none] at hl'
      rw [← a3, add_none] at h4
      have hnd' : (F1 ++ F2 ++ F3).Nodup := by simpa using (List.nodup_append.1 hnd).2.1
      have hgF : g ∉ F1 ++ F2 ++ F3 := fun hx => (List.nodup_append.1 hnd).2.2 g (by simp) g hx rfl
      have hnd2 : F2.Nodup := (List.nodup_append.1 (List.nodup_append.1 hnd').1).2.1
      obtain ⟨N, cs1, G1, b1, b2, b3, b4, b5, b6⟩ := Ow.put hw hlen hnew a6 hl' hnd2 (fun hx => hgF (by simp [hx])) h4
      have hblk : a'.block = g ∨ a'.block ∈ F2 := by
        obtain ⟨_, _, _, _, _, d3, d4⟩ := Ow.get a6 hl' h4
        exact d4
      have hne0 : a'.block ≠ g0 := fun he => hg (by rw [← he]; rcases hblk with h | h <;> simp [h])
      have hrest : ∀ p c k, (∀ x ∈ k, x ∈ F1 ++ F3) → Ow P w n e p c k → Ow P w' (max n N) e p c k := fun p c k hk hp => by
        refine (Ow.frame (fun x hx => hw.rest x (fun he => ?_)) hp).le (Nat.le_max_left _ _)
        have hx1 := hk x hx
        subst he
        rcases hblk with d4 | d4
        · exact hgF (by rw [d4] at hx1; simp at hx1 ⊢; rcases hx1 with h | h <;> simp [h])
        · simp only [List.nodup_append, List.mem_append] at hnd' hx1
          rcases hx1 with h | h
          · exact hnd'.1.2.2 _ h _ d4 rfl
          · exact hnd'.2.2 _ (.inr d4) _ h rfl
      have hxl : xs.length = ps.length * sizeOf P e := h7.1
      have hrow : ownsR w' e (sizeOf P e) v ps.length (A1 ++ cs1 ++ B) := by
        refine ⟨by rw [a2] at hxl; simp at hxl ⊢; rw [b4]; exact hxl, .inr ?_⟩
        by_cases he : a'.block = g
        · obtain ⟨o, d1, d2, d3⟩ := b2 he
          obtain ⟨cur', e4, e5⟩ := hw.here cur e fz (he ▸ hh)
          have hoff : a'.off = A1.length + o := by rw [d1]; simp
          have hcl : cur.toList.length = cur.size := by simp
          have htl : xs.length ≤ cur.toList.length := by rw [← htk, List.length_take]; omega
          have hin : a'.off + c'.length ≤ xs.length := by rw [hoff, a2]; simp; omega
          have hcs : cur'.size = cur.size := by rw [← Array.length_toList, e5, patch_len (by omega), Array.length_toList]
          refine ⟨g, cap, cur', fz, hv', hcs ▸ hfz, he ▸ e4, hcap, hmax, ?_, ?_⟩
          · rw [hcs, hsz]
          · rw [e5, patch_take (by omega) (by omega), htk, a2, hoff, patch_mid d2, d3]
        · rw [b3 he]
          refine ⟨g, cap, cur, fz, hv', hfz, (hw.rest g (fun h => he h.symm)).trans hh, hcap, hmax, hsz, ?_⟩
          rw [htk, a2]
      refine ⟨max n N + 1, [v], [g] ++ (F1 ++ G1 ++ F3), ?_, fun he => absurd he hne0, fun _ => rfl, rfl, fun x hx => ?_, fun e1 e2 => ?_⟩
      · unfold Ow
        simp only [h1]
        refine ⟨v, A1 ++ cs1 ++ B, ps.set j (q.setAt r v'), F1 ++ G1 ++ F3, rfl, ?_, by simpa using hrow, by rw [hob]; rfl, ?_⟩
        · simp [PV.setAt, PV.items, PV.elem, List.getD_eq_getElem?_getD, hq]
        · exact a7 (by rw [b4, a4]) hrest (b1.le (Nat.le_max_right _ _))
      · simp only [List.mem_append, List.mem_singleton, Option.toList] at hx ⊢
        rcases hx with h | (h | h) | h
        · simp [h]
        · simp [h]
        · rcases b5 x h with h | h <;> simp [h]
        · simp [h]
      · have hG := b6 e1 (fun x hx hx' => e2 x hx (by simp [hx']))
        have hg1 : g ∉ G1 := fun hx => by
          rcases b5 g hx with h | h
          · exact hgF (by simp [h])
          · exact e2 g h (by simp)
        simp only [List.nodup_append, List.mem_append] at hnd' hgF ⊢
        refine ⟨by simp, ⟨⟨hnd'.1.1, hG, fun x hx y hy he => ?_⟩, hnd'.2.1, fun x hx y hy he => ?_⟩, fun x hx y hy he => ?_⟩
        · subst he
          rcases b5 x hy with h | h
          · exact hnd'.1.2.2 x hx x h rfl
          · exact e2 x h (by simp [hx])
        · subst he
          rcases hx with hx | hx
          · exact hnd'.2.2 x (.inl hx) x hy rfl
          · rcases b5 x hx with h | h
            · exact hnd'.2.2 x (.inr h) x hy rfl
            · exact e2 x h (by simp [hy])
        · simp at hx
          subst hx he
          rcases hy with (h | h) | h
          · exact hgF (.inl (.inl h))
          · exact hg1 h
          · exact hgF (.inr h)
end
end Go.Proofs.YtfbkfhdlingedaaAm

/-! What a slot of the machine says of a frame's temporary, and how it goes on saying it while memory turns. -/
namespace Go.Proofs.YtfbkfhdlingedaaAm
open Go RowKit

/-- cv: the slice values that do not change, by number; rok: the blocks that may be read. -/
structure Gh where
  hnd : Nat → Value
  ft : Nat → List Nat
  cv : Nat → Value
  rok : Nat → Prop
/-- From a row's own value along a path. -/
def PlcH (P : Program) (w : World) (t : TypeId) (v : Value) : List Stp → TypeId → Addr → Prop
  | .idx j :: r, t', a' => ∃ e A len cap, tk P t = .slice e ∧ v = .slice (some A) len cap ∧ j < len ∧ Plc P w e (A.add (j * sizeOf P e)) r t' a'
  | _, _, _ => False
/-- Along fields alone: how many cells on. -/
def PlcF (P : Program) : TypeId → Nat → List Stp → TypeId → Nat → Prop
  | t, o, [], t', o' => t' = t ∧ o' = o
  | t, o, .fld i :: r, t', o' => ∃ fs f, tk P t = .struct fs ∧ fs[i]? = some f ∧ PlcF P f (o + offOf P fs i) r t' o'
  | _, _, .idx _ :: _, _, _ => False
def RefAt (P : Program) (w : World) (u : TypeId) (h : Value) (p : List Stp) (v : Value) : Prop :=
  (p = [] ∧ v = h) ∨ (∃ a t' e, PlcH P w u h p t' a ∧ tk P t' = .slice e ∧ w.cell? a = some v)
structure Mm where
  w : World
  oh : Nat → Own
  G : Gh
/-- Blocks that nothing of one's own lies in. -/
def Mm.ok (M : Mm) (k : Nat) : Prop := M.G.rok k ∧ ∀ id, k ∉ M.G.ft id
def Leaf (P : Program) (M : Mm) : SV → Value → Prop
  | .nil, v => v = .slice none 0 0
  | .sc x, v => v = x
  | .err b, v => (b = false ∧ v = .nilIface) ∨ (b = true ∧ ∃ te pe, v = .iface te pe)
  | .ro t pv, v => ∃ n e, tk P t = .slice e ∧ Rd P M.ok M.w n t pv [v]
  | .con g t pv, v => v = M.G.cv g ∧ ∃ n e, tk P t = .slice e ∧ Rd P M.ok M.w n t pv [v]
  | .ref id p, v => match M.oh id with
    | .row u _ => RefAt P M.w u (M.G.hnd id) p v
    | .hole _ _ _ => p = [] → v = M.G.hnd id
    | .shl _ _ => p = [] ∧ v = M.G.hnd id
    | .dead => True
    | _ => False
  | .view id p lo hi, v => match M.oh id with
    | .row u _ => ∃ e A len cap A' cap', tk P (tyAt P u p) = .slice e ∧ RefAt P M.w u (M.G.hnd id) p (.slice A len cap) ∧ lo ≤ hi ∧ hi ≤ len ∧ v = .slice A' (hi - lo) cap' ∧ hi - lo ≤ cap' ∧ (lo < hi → ∃ ad, A = some ad ∧ A' = some (ad.add (lo * sizeOf P e))) ∧ (lo = 0 → A' = A ∧ cap' = cap)
    | .hole u _ _ => p = [] → ∃ e A len cap A' cap', tk P (tyAt P u p) = .slice e ∧ .slice A len cap = M.G.hnd id ∧ lo ≤ hi ∧ hi ≤ len ∧ v = .slice A' (hi - lo) cap' ∧ hi - lo ≤ cap' ∧ (lo < hi → ∃ ad, A = some ad ∧ A' = some (ad.add (lo * sizeOf P e))) ∧ (lo = 0 → A' = A ∧ cap' = cap)
    | .shl u _ => p = [] ∧ ∃ e A len cap A' cap', tk P (tyAt P u p) = .slice e ∧ .slice A len cap = M.G.hnd id ∧ lo ≤ hi ∧ hi ≤ len ∧ v = .slice A' (hi - lo) cap' ∧ hi - lo ≤ cap' ∧ (lo < hi → ∃ ad, A = some ad ∧ A' = some (ad.add (lo * sizeOf P e))) ∧ (lo = 0 → A' = A ∧ cap' = cap)
    | .dead => True
    | _ => False
  | .ptr id p, v => match M.oh id with
    | .row u _ => ∃ a t', v = .pointer (some a) ∧ PlcH P M.w u (M.G.hnd id) p t' a
    | .box u _ => ∃ g o t', M.G.hnd id = .pointer (some ⟨g, 0, none⟩) ∧ v = .pointer (some ⟨g, o, none⟩) ∧ PlcF P u 0 p t' o
    | .hole u _ _ => twoIdx p = false → ∃ a t', v = .pointer (some a) ∧ PlcH P M.w u (M.G.hnd id) p t' a
    | .shl u _ => twoIdx p = false ∧ ∃ a t', v = .pointer (some a) ∧ PlcH P M.w u (M.G.hnd id) p t' a
    | .dead => True
    | .free => False
  | .rop t pv, v => ∃ a n cs, v = .pointer (some a) ∧ M.ok a.block ∧ a.block < M.w.heap.size ∧ Loc M.w a cs ∧ Rd P M.ok M.w n t pv cs
  | _, _ => False
/-- The cells of an array of whole numbers. -/
def ArrC (P : Program) (t : TypeId) (k : IntKind) (pv : PV) (cs : List Value) : Prop :=
  ∃ n e ps, P.underlying t = some (.array n e) ∧ tk P t = .struct (List.replicate n e) ∧ tk P e = .int k ∧ pv = .agg ps ∧ ps.length = n ∧ (∀ p ∈ ps, ∃ x, p = .sc (.int k x)) ∧ cs = ps.map PV.toVal
mutual
inductive SVc (P : Program) (M : Mm) : TypeId → SV → List Value → Prop
  | junk (t : TypeId) (cs : List Value) : cs.length = sizeOf P t → (∀ u ∈ cs, one u = true) → SVc P M t .junk cs
  | leaf (t : TypeId) (x : SV) (v : Value) : Leaf P M x v → one v = true → sizeOf P t = 1 → (∀ fs, tk P t ≠ .struct fs) → SVc P M t x [v]
  | agg (t u : TypeId) (fs : List TypeId) (xs : List SV) (cs : List Value) : tk P t = .struct fs → alike P t u = true → SVcL P M fs xs cs → SVc P M t (.agg u xs) cs
  | arr (t u : TypeId) (k : IntKind) (pv : PV) (cs : List Value) : alike P t u = true → ArrC P u k pv cs → SVc P M t (.arr u k pv) cs
inductive SVcL (P : Program) (M : Mm) : List TypeId → List SV → List Value → Prop
  | nil : SVcL P M [] [] []
  | cons (t : TypeId) (ts : List TypeId) (x : SV) (xs : List SV) (c cs : List Value) : SVc P M t x c → SVcL P M ts xs cs → SVcL P M (t :: ts) (x :: xs) (c ++ cs)
end
inductive Slot (P : Program) (M : Mm) : SV → Value → Prop
  | junk (v : Value) : Slot P M .junk v
  | undef : Slot P M .undef Go.undef
  | leaf (x : SV) (v : Value) : Leaf P M x v → one v = true → Slot P M x v
  | agg (u : TypeId) (xs : List SV) (cs : Array Value) : SVc P M u (.agg u xs) cs.toList → Slot P M (.agg u xs) (.agg cs)
  | arr (u : TypeId) (k : IntKind) (pv : PV) (cs : Array Value) : ArrC P u k pv cs.toList → Slot P M (.arr u k pv) (.agg cs)
  | tup (xs : List SV) (vs : Array Value) : xs.length = vs.size → (∀ (i : Nat) (x : SV) (v : Value), xs[i]? = some x → vs[i]? = some v → Slot P M x v) → Slot P M (.tup xs) (.tuple vs)
/-- What is known of the package-level variables: of a world and the blocks that may be read. -/
class Glb (P : Program) extends Gl P where
  holds : (Nat → Prop) → World → Prop
  step : ∀ {ok ok' : Nat → Prop} {w w' : World}, holds ok w → w.heap.size ≤ w'.heap.size → (∀ k, k < w.heap.size → ok k → ok' k ∧ w'.heap[k]? = w.heap[k]?) → holds ok' w'
  rd : ∀ {ok : Nat → Prop} {w : World} {g : Nat} {t : TypeId} {pv : PV}, holds ok w → gl g = some (t, pv) → ok g ∧ g < w.heap.size ∧ ∃ n cs, Loc w ⟨g, 0, none⟩ cs ∧ Rd P ok w n t pv cs
/-- Memory, as the machine has it. W, pin: the world and the rows lent as they were; may: the blocks that may turn. -/
structure Cx where
  W : World
  may : Nat → Prop
  pins : Nat
  pin : Nat → Value
  cv : Nat → Value
  rok : Nat → Prop
structure Kept (W w : World) (may : Nat → Prop) : Prop where
  os : w.os = W.os
  tape : w.tape = W.tape
  output : w.output = W.output
  size : W.heap.size ≤ w.heap.size
  block : ∀ k, k < W.heap.size → ¬ may k → w.heap[k]? = W.heap[k]?
def BoxAt (P : Program) (M : Mm) (id : Nat) (t : TypeId) (sv : SV) : Prop :=
  ∃ g cs, M.G.hnd id = .pointer (some ⟨g, 0, none⟩) ∧ M.G.ft id = [g] ∧ M.w.heap[g]? = some (.cells cs t (0, 0)) ∧ SVc P M t sv cs.toList
def PatB (w w' : World) (a : Addr) (x : Value) : Prop := ∀ cur e fz, w.heap[a.block]? = some (.cells cur e fz) → ∃ cur', w'.heap[a.block]? = some (.cells cur' e fz) ∧ cur'.toList = patch cur.toList a.off [x]
/-- A row out of which an inner row was taken: what may be put there makes it whole. -/
def HoleAt (P : Program) (w : World) (t : TypeId) (pv : PV) (p : List Stp) (v : Value) (F : List Nat) : Prop :=
  ∃ t' g k, PlcH P w t v p t' ⟨g, k, none⟩ ∧ twoIdx p = false ∧ g ∈ F ∧ sizeOf P t' = 1 ∧ (∃ e, tk P t' = .slice e) ∧ (∃ cur el fz, FzOk cur.size fz ∧ w.heap[g]? = some (.cells cur el fz) ∧ k + 1 ≤ cur.size) ∧ (∀ y ∈ F, y < w.heap.size) ∧
    (∃ ad cap ps, pv = .list ps ∧ v = .slice (some ad) ps.length cap ∧ p ≠ []) ∧ ∀ (w' : World) (v' : PV) (x : Value) (G : List Nat) (n' : Nat), (∀ y ∈ F, y ≠ g → w'.heap[y]? = w.heap[y]?) → PatB w w' ⟨g, k, none⟩ x → Ow P w' n' t' v' [x] G → ∃ N F', Ow P w' N t (pv.setAt p v') [v] F' ∧ F'.Perm (F ++ G)
/-- A row of one's own, whose elements are only read. -/
def ShlAt (P : Program) (ok : Nat → Prop) (w : World) (t : TypeId) (ps : List PV) (v : Value) (F : List Nat) : Prop :=
  ∃ e n xs, tk P t = .slice e ∧ ownsR w e (sizeOf P e) v ps.length xs ∧ F = v.ownBlock.toList ∧ OwSeq (fun p c f => Rd P ok w n e p c ∧ f = []) (sizeOf P e) ps xs []
structure Mem (P : Program) (C : Cx) (M : Mm) : Prop where
  kept : Kept C.W M.w C.may
  row : ∀ id t pv, M.oh id = .row t pv → ∃ n, Ow P M.w n t pv [M.G.hnd id] (M.G.ft id)
  box : ∀ id t sv, M.oh id = .box t sv → BoxAt P M id t sv
  hol : ∀ id t pv p, M.oh id = .hole t pv p → HoleAt P M.w t pv p (M.G.hnd id) (M.G.ft id)
  none_ : ∀ id, (∀ t pv, M.oh id ≠ .row t pv) → (∀ t sv, M.oh id ≠ .box t sv) → (∀ t pv p, M.oh id ≠ .hole t pv p) → (∀ t ps, M.oh id ≠ .shl t ps) → M.G.ft id = []
  shl : ∀ id t ps, M.oh id = .shl t ps → ShlAt P M.ok M.w t ps (M.G.hnd id) (M.G.ft id)
  nd : ∀ id, (M.G.ft id).Nodup
  dj : ∀ i j, i ≠ j → ∀ k ∈ M.G.ft i, k ∉ M.G.ft j
  own : ∀ id, ∀ k ∈ M.G.ft id, C.may k
  pin : ∀ id, id < C.pins → ((∃ t pv, M.oh id = .row t pv) ∨ (∃ t sv, M.oh id = .box t sv) ∨ (∃ t pv p, M.oh id = .hole t pv p) ∨ ∃ t ps, M.oh id = .shl t ps) → M.G.hnd id = C.pin id
  new : ∀ k, C.W.heap.size ≤ k → C.may k
  gh : M.G.cv = C.cv ∧ M.G.rok = C.rok

section
variable {P : Program} {w w' : World} {n : Nat} {t t' u : TypeId} {pv : PV} {cs : List Value} {F : List Nat} {a a' : Addr} {p : List Stp} {v : Value}
theorem ftype_of {fs : List TypeId} {f : TypeId} {i : Nat} (h1 : tk P t = .struct fs) (h2 : fs[i]? = some f) : ftype P t i = f := by
  unfold ftype arrOf
  cases hu : P.underlying t with
  | none => simp [h1, List.getD_eq_getElem?_getD, h2]
  | some d =>
    cases d <;> simp only [h1] <;> try (simp [List.getD_eq_getElem?_getD, h2])
    case array n e =>
      unfold tk at h1
      simp only [hu] at h1
      cases hf : arrFit P t n e <;> rw [hf] at h1
      · cases h1
      · simp only [cond_true] at h1
        injection h1 with h1
        subst h1
        rw [List.getElem?_replicate] at h2
        split at h2
        · injection h2
        · cases h2
theorem etype_of {e : TypeId} (h1 : tk P t = .slice e) : etype P t = e := by simp [etype, h1]
theorem Plc.ty : ∀ {p : List Stp} {t : TypeId} {a : Addr}, Plc P w t a p t' a' → t' = tyAt P t p
  | [], _, _, h => h.1
  | .fld i :: r, t, a, ⟨fs, f, h1, h2, h3⟩ => by rw [tyAt, ftype_of h1 h2]; exact Plc.ty h3
  | .idx j :: r, t, a, ⟨e, A, len, cap, h1, h2, h3, h4⟩ => by rw [tyAt, etype_of h1]; exact Plc.ty h4
theorem PlcH.ty : ∀ {p : List Stp} {t : TypeId}, PlcH P w t v p t' a' → t' = tyAt P t p
  | [], _, h => h.elim
  | .fld i :: r, _, h => h.elim
  | .idx j :: r, t, ⟨e, A, len, cap, h1, h2, h3, h4⟩ => by rw [tyAt, etype_of h1]; exact Plc.ty h4
theorem PlcF.ty : ∀ {p : List Stp} {t : TypeId} {o o' : Nat}, PlcF P t o p t' o' → t' = tyAt P t p
  | [], _, _, _, h => h.1
  | .fld i :: r, t, o, o', ⟨fs, f, h1, h2, h3⟩ => by rw [tyAt, ftype_of h1 h2]; exact PlcF.ty h3
  | .idx j :: r, t, o, o', h => h.elim
def noIdx : List Stp → Bool
  | [] => true
  | .fld _ :: r => noIdx r
  | .idx _ :: _ => false
theorem Plc.still : ∀ {p : List Stp} {t : TypeId} {a : Addr}, noIdx p = true → Plc P w t a p t' a' → Plc P w' t a p t' a'
  | [], _, _, _, h => h
  | .fld i :: r, t, a, hn, ⟨fs, f, h1, h2, h3⟩ => ⟨fs, f, h1, h2, Plc.still hn h3⟩
  | .idx j :: r, _, _, hn, _ => by simp [noIdx] at hn
theorem flat_field {fs : List TypeId} {f : TypeId} {i : Nat} (h : flat P (n + 1) t = true) (h1 : tk P t = .struct fs) (h2 : fs[i]? = some f) : flat P n f = true := by
  simp only [flat, h1] at h
  exact List.all_eq_true.1 h f (List.mem_of_getElem? h2)
theorem flat_noSlice {e : TypeId} (h : flat P n t = true) : tk P t ≠ .slice e := by
  cases n with
  | zero => simp [flat] at h
  | succ n => intro h1; simp [flat, h1] at h
theorem Plc.flat : ∀ {p : List Stp} {n : Nat} {t : TypeId} {a : Addr}, flat P n t = true → Plc P w t a p t' a' → noIdx p = true ∧ ∀ e, tk P t' ≠ .slice e
  | [], n, t, a, hf, h => ⟨rfl, fun e => by rw [h.1]; exact flat_noSlice hf⟩
  | .fld i :: r, 0, t, a, hf, h => by simp [YtfbkfhdlingedaaAm.flat] at hf
  | .fld i :: r, n + 1, t, a, hf, ⟨fs, f, h1, h2, h3⟩ => by
    have := Plc.flat (flat_field hf h1 h2) h3
    exact ⟨this.1, this.2⟩
  | .idx j :: r, n, t, a, hf, ⟨e, A, len, cap, h1, _⟩ => absurd h1 (flat_noSlice hf)
theorem PlcH.still (hn : twoIdx p = false) (h : PlcH P w t v p t' a') : PlcH P w' t v p t' a' := by
  cases p with
  | nil => exact h.elim
  | cons s r =>
    cases s with
    | fld i => exact h.elim
    | idx j =>
      obtain ⟨e, A, len, cap, h1, h2, h3, h4⟩ := h
      refine ⟨e, A, len, cap, h1, h2, h3, h4.still ?_⟩
      clear h4
      simp only [twoIdx] at hn
      induction r with
      | nil => rfl
      | cons s r ih => cases s with
        | fld i => simp only [List.any_cons, Bool.false_or] at hn; exact ih hn
        | idx i => simp at hn
theorem PlcH.flat (hf : flat P n (etype P t) = true) (h : PlcH P w t v p t' a') : PlcH P w' t v p t' a' ∧ ∀ e, tk P t' ≠ .slice e := by
  cases p with
  | nil => exact h.elim
  | cons s r =>
    cases s with
    | fld i => exact h.elim
    | idx j =>
      obtain ⟨e, A, len, cap, h1, h2, h3, h4⟩ := h
      rw [etype_of h1] at hf
      have := h4.flat hf
      exact ⟨⟨e, A, len, cap, h1, h2, h3, h4.still this.1⟩, this.2⟩
/-- A row's place: what lies there, and that it stays while the row's blocks stay. -/
theorem Ow.getH (h : Ow P w n t pv [v] F) (hp : PlcH P w t v p t' a') : ∃ m cs' F', Ow P w m t' (pv.at p) cs' F' ∧ Loc w a' cs' ∧ (∀ k ∈ F', k ∈ F) ∧ a'.block ∈ F := by
  cases p with
  | nil => exact hp.elim
  | cons s r =>
    cases s with
    | fld i => exact hp.elim
    | idx j =>
      cases n with
      | zero => exact h.elim
      | succ n =>
        obtain ⟨e, A, len, cap, h1, h2, h3, h4⟩ := hp
        unfold Ow at h
        simp only [h1] at h
        obtain ⟨v', xs, ps, F', hv', rfl, h7, rfl, h9⟩ := h
        simp at hv'; subst hv'
        obtain ⟨A', cap', hv', hcap⟩ := ownsRow_slice h7
        have hlen : len = ps.length := by rw [h2] at hv'; injection hv'
        obtain ⟨_, _, g, hA, hb, hcell⟩ := ownsRow_cell h7 h2 (by omega)
        have hA : A = ⟨g, 0, none⟩ := Option.some.inj hA
        subst hA
        obtain ⟨q, hq⟩ : ∃ q, ps[j]? = some q := ⟨ps[j]'(by omega), by simp⟩
        obtain ⟨A1, c, B, F1, F2, F3, a2, a3, a4, a5, a6, _⟩ := h9.get hq
        have hl0 : Loc w (⟨g, 0, none⟩ : Addr) (A1 ++ c ++ B) := fun q u hq => hcell q u (a2 ▸ hq)
        obtain ⟨m, cs', F'', b1, b2, b3, b4⟩ := Ow.get a6 (a3 ▸ hl0.app) h4
        refine ⟨m, cs', F'', ?_, b2, fun k hk => ?_, ?_⟩
        · simpa [PV.at, PV.elem, PV.items, List.getD_eq_getElem?_getD, hq] using b1
        · rw [a5]; have := b3 k hk; simp [this]
        · rcases b4 with b4 | b4
          · rw [b4, add_block, hb]; simp
          · rw [a5]; simp [b4]
theorem PlcH.frame (h : Ow P w n t pv [v] F) (hF : ∀ k ∈ F, w'.heap[k]? = w.heap[k]?) (hp : PlcH P w t v p t' a') : PlcH P w' t v p t' a' := by
  cases p with
  | nil => exact hp.elim
  | cons s r =>
    cases s with
    | fld i => exact hp.elim
    | idx j =>
      cases n with
      | zero => exact h.elim
      | succ n =>
        obtain ⟨e, A, len, cap, h1, h2, h3, h4⟩ := hp
        unfold Ow at h
        simp only [h1] at h
        obtain ⟨v', xs, ps, F', hv', rfl, h7, rfl, h9⟩ := h
        simp at hv'; subst hv'
        obtain ⟨A', cap', hv', hcap⟩ := ownsRow_slice h7
        have hlen : len = ps.length := by rw [h2] at hv'; injection hv'
        obtain ⟨_, _, g, hA, hb, hcell⟩ := ownsRow_cell h7 h2 (by omega)
        have h7' := ownsRow_move (w' := w') h7 (fun k hk => hF k (by rw [hk]; simp))
        obtain ⟨_, _, g', hA', hb', hcell'⟩ := ownsRow_cell h7' h2 (by omega)
        have hA : A = ⟨g, 0, none⟩ := Option.some.inj hA
        have : g' = g := by rw [hb] at hb'; exact (Option.some.inj hb').symm
        subst hA this
        obtain ⟨q, hq⟩ : ∃ q, ps[j]? = some q := ⟨ps[j]'(by omega), by simp⟩
        obtain ⟨A1, c, B, F1, F2, F3, a2, a3, a4, a5, a6, _⟩ := h9.get hq
        have hl0 : Loc w (⟨g', 0, none⟩ : Addr) (A1 ++ c ++ B) := fun q u hq => hcell q u (a2 ▸ hq)
        have hl1 : Loc w' (⟨g', 0, none⟩ : Addr) (A1 ++ c ++ B) := fun q u hq => hcell' q u (a2 ▸ hq)
        exact ⟨e, _, len, cap, h1, h2, h3, Plc.frame a6 (a3 ▸ hl0.app) (fun k hk => hF k (by rw [a5]; simp [hk])) (a3 ▸ hl1.app) h4⟩
theorem cell_lt {w : World} {a : Addr} {v : Value} (h : w.cell? a = some v) : a.block < w.heap.size := by
  rcases Nat.lt_or_ge a.block w.heap.size with h1 | h1
  · exact h1
  · simp [World.cell?, Array.getElem?_eq_none h1] at h
theorem elem_pos {e : TypeId} (h : tk P t = .slice e) : 0 < sizeOf P e := by
  unfold tk at h
  split at h <;> first | cases h | skip
  all_goals (try (simp only [cond_eq_ite] at h; split at h <;> first | cases h | skip))
  all_goals (rename_i hc; simp only [Bool.and_eq_true, elemOk] at hc; have := hc.2; unfold sizeOf; cases hi : P.info? e with
    | none => rw [hi] at this; simp at this
    | some i => rw [hi] at this; simp only [Bool.and_eq_true] at this; have := this.1.1; simpa [Nat.blt_eq] using this)
theorem Rd.step {ok ok' : Nat → Prop} (hc : ∀ k, k < w.heap.size → ok k → ok' k ∧ w'.heap[k]? = w.heap[k]?) : ∀ {n : Nat} {t : TypeId} {pv : PV} {cs : List Value}, Rd P ok w n t pv cs → Rd P ok' w' n t pv cs
  | 0, _, _, _, h => h.elim
  | n + 1, t, pv, cs, h => by
    unfold Rd at h ⊢
    split <;> rename_i ht <;> simp only [ht] at h
    · exact h
    · exact h
    · exact h
    · obtain ⟨A, cap, ps, h1, h2, h3, h4⟩ := h
      refine ⟨A, cap, ps, h1, h2, h3, fun h0 => ?_⟩
      obtain ⟨ad, h5, h6, h7⟩ := h4 h0
      have hlt : ad.block < w.heap.size := by
        obtain ⟨c, b1, b2, _⟩ := h7 0 ps[0] (by simp)
        have hpos := elem_pos ht
        obtain ⟨u, hu⟩ : ∃ u, c[0]? = some u := ⟨c[0]'(by omega), by simp⟩
        have := cell_lt (b2 0 u hu)
        rwa [add_block] at this
      refine ⟨ad, h5, (hc _ hlt h6).1, h7.imp (fun a v hb hv => ?_) (fun p c _ hp => Rd.step hc hp)⟩
      have := (hc _ hlt h6).2
      rw [← hb] at this
      simpa [World.cell?, this] using hv
    · obtain ⟨ps, h1, h2⟩ := h
      exact ⟨ps, h1, h2.imp (fun t p c _ hp => Rd.step hc hp)⟩
    · exact h
theorem ShlAt.step {ok ok' : Nat → Prop} {w w' : World} {t : TypeId} {ps : List PV} {v : Value} {F : List Nat} (h : ShlAt P ok w t ps v F) (hF : ∀ k ∈ F, w'.heap[k]? = w.heap[k]?) (hc : ∀ k, k < w.heap.size → ok k → ok' k ∧ w'.heap[k]? = w.heap[k]?) : ShlAt P ok' w' t ps v F := by
  obtain ⟨e, n, xs, h1, h2, h3, h4⟩ := h
  exact ⟨e, n, xs, h1, ownsRow_move h2 (fun k hk => hF k (by rw [h3, hk]; simp)), h3, h4.imp (fun p c f _ hp => ⟨hp.1.step hc, hp.2⟩)⟩
theorem HoleAt.frame {w w' : World} {t : TypeId} {pv : PV} {p : List Stp} {v : Value} {F : List Nat} (h : HoleAt P w t pv p v F) (hF : ∀ k ∈ F, w'.heap[k]? = w.heap[k]?) (hsz : w.heap.size ≤ w'.heap.size) : HoleAt P w' t pv p v F := by
  obtain ⟨t', g, k, h1, h2, h3, h4, h5, ⟨cur, el, fz, c1, c2, c3⟩, h7, h9, h8⟩ := h
  refine ⟨t', g, k, h1.still h2, h2, h3, h4, h5, ⟨cur, el, fz, c1, (hF g h3).trans c2, c3⟩, fun y hy => Nat.lt_of_lt_of_le (h7 y hy) hsz, h9, fun w2 v' x G n' hy hp ho => ?_⟩
  refine h8 w2 v' x G n' (fun y hm hn => (hy y hm hn).trans (hF y hm)) (fun cur e fz hc => ?_) ho
  exact hp cur e fz ((hF g h3).trans hc)
end

/-! ### One step of memory -/
inductive IdStep (P : Program) (M M' : Mm) (stale : List Nat) (id : Nat) : Prop
  | same : M'.oh id = freshenOwn stale (M.oh id) → M'.G.hnd id = M.G.hnd id → M'.G.ft id = M.G.ft id → (∀ k ∈ M.G.ft id, M'.w.heap[k]? = M.w.heap[k]?) → IdStep P M M' stale id
  | dead : M'.oh id = .dead → M'.G.ft id = [] → M.oh id ≠ .free → IdStep P M M' stale id
  | row (t : TypeId) (pv : PV) : M'.oh id = .row t pv → (∃ n, Ow P M'.w n t pv [M'.G.hnd id] (M'.G.ft id)) → (M.oh id = .free ∨ (∃ pv0, M.oh id = .row t pv0) ∧ M'.G.hnd id = M.G.hnd id ∧ (flat P 8 (etype P t) = true ∨ memB stale id = true)) → IdStep P M M' stale id
  | box (t : TypeId) (sv : SV) (g : Nat) (cs : Array Value) : M'.oh id = .box t (freshen stale sv) → M'.G.hnd id = .pointer (some ⟨g, 0, none⟩) → M'.G.ft id = [g] → M'.w.heap[g]? = some (.cells cs t (0, 0)) → SVc P M t sv cs.toList → (M.oh id = .free ∨ (∃ sv0, M.oh id = .box t sv0) ∧ M'.G.hnd id = M.G.hnd id) → IdStep P M M' stale id
  | hole (t : TypeId) (pv : PV) (p : List Stp) : M'.oh id = .hole t pv p → HoleAt P M'.w t pv p (M'.G.hnd id) (M'.G.ft id) → (∃ pv0, M.oh id = .row t pv0) → M'.G.hnd id = M.G.hnd id → IdStep P M M' stale id
  | shl (t : TypeId) (ps : List PV) : M'.oh id = .shl t ps → ShlAt P M'.ok M'.w t ps (M'.G.hnd id) (M'.G.ft id) → M.oh id = .free → IdStep P M M' stale id
  | fill (t : TypeId) (pv : PV) : M'.oh id = .row t pv → (∃ n, Ow P M'.w n t pv [M'.G.hnd id] (M'.G.ft id)) → (∃ pv0 q, M.oh id = .hole t pv0 q) → M'.G.hnd id = M.G.hnd id → memB stale id = true → IdStep P M M' stale id
structure Trans (P : Program) (C : Cx) (M M' : Mm) (stale : List Nat) : Prop where
  kept : Kept C.W M'.w C.may
  size : M.w.heap.size ≤ M'.w.heap.size
  ids : ∀ id, IdStep P M M' stale id
  nd : ∀ id, (M'.G.ft id).Nodup
  dj : ∀ i j, i ≠ j → ∀ k ∈ M'.G.ft i, k ∉ M'.G.ft j
  own : ∀ id, ∀ k ∈ M'.G.ft id, C.may k
  pin : ∀ id, id < C.pins → M.oh id ≠ .free
  ok : ∀ k, k < M.w.heap.size → M.ok k → M'.ok k ∧ M'.w.heap[k]? = M.w.heap[k]?
  gh : M'.G.cv = M.G.cv ∧ M'.G.rok = M.G.rok
section
variable {P : Program} {C : Cx} {M M' : Mm} {stale : List Nat} {x : SV} {v : Value}
theorem cell_same {w w' : World} {a : Addr} (h : w'.heap[a.block]? = w.heap[a.block]?) : w'.cell? a = w.cell? a := by simp [World.cell?, h]
theorem freshenOwn_row {o : Own} {t : TypeId} {pv : PV} (h : o = .row t pv) : freshenOwn stale o = .row t pv := by rw [h]; rfl
/-- A reference into a row goes on, if the row is not stale for it. -/
theorem RefAt.step {id : Nat} {u : TypeId} {pv : PV} {p : List Stp} (hm : Mem P C M) (ht : Trans P C M M' stale) (ho : M.oh id = .row u pv) (hd : M'.oh id ≠ .dead) (hs : p = [] ∨ memB stale id = false) (h : RefAt P M.w u (M.G.hnd id) p v) :
    ((∃ pv', M'.oh id = .row u pv') ∧ RefAt P M'.w u (M'.G.hnd id) p v) ∨ ((∃ pv' q, M'.oh id = .hole u pv' q) ∧ (p = [] → v = M'.G.hnd id)) := by
  obtain ⟨n, how⟩ := hm.row id u pv ho
  cases ht.ids id with
  | hole t1 pv1 q h1 h2 h3 h4 =>
    obtain ⟨pv0, h3⟩ := h3
    rw [ho] at h3; injection h3 with e1 e2; subst e1
    refine .inr ⟨⟨pv1, q, h1⟩, fun hp => ?_⟩
    rw [h4]
    rcases h with h | ⟨a, t', e, b1, b2, b3⟩
    · exact h.2
    · rw [hp] at b1; exact b1.elim
  | fill t1 pv1 h1 h2 h3 h4 =>
    obtain ⟨pv0, q, h3⟩ := h3
    rw [ho] at h3; cases h3
  | shl t1 ps1 h1 h2 h3 => rw [ho] at h3; cases h3
  | same h1 h2 h3 h4 =>
    refine .inl ⟨⟨pv, by rw [h1, freshenOwn_row ho]⟩, ?_⟩
    rw [h2]
    rcases h with h | ⟨a, t', e, b1, b2, b3⟩
    · exact .inl h
    · obtain ⟨_, _, _, _, _, _, c4⟩ := how.getH b1
      exact .inr ⟨a, t', e, b1.frame how h4, b2, (cell_same (h4 _ c4)).trans b3⟩
  | dead h1 h2 h3 => exact absurd h1 hd
  | row t pv1 h1 h2 h3 =>
    rcases h3 with h3 | ⟨⟨pv0, h3⟩, h4, h5⟩
    · rw [ho] at h3; cases h3
    · rw [ho] at h3; injection h3 with e1 e2; subst e1
      refine .inl ⟨⟨pv1, h1⟩, ?_⟩
      rw [h4]
      rcases h with h | ⟨a, t', e, b1, b2, b3⟩
      · exact .inl h
      · rcases h5 with h5 | h5
        · exact absurd b2 ((b1.flat (w' := M.w) h5).2 e)
        · rcases hs with hs | hs
          · subst hs; exact b1.elim
          · rw [h5] at hs; cases hs
  | box t sv g0 cs0 h1 hb1 hb2 hb3 hb4 h3 =>
    rcases h3 with h3 | ⟨⟨sv0, h3⟩, _⟩ <;> rw [ho] at h3 <;> cases h3
theorem Leaf.step (hm : Mem P C M) (ht : Trans P C M M' stale) (h : Leaf P M x v) : freshen stale x = .junk ∨ Leaf P M' (freshen stale x) v := by
  cases x with
  | junk => exact .inl rfl
  | undef => exact h.elim
  | agg => exact h.elim
  | arr => exact h.elim
  | tup => exact h.elim
  | nil => exact .inr h
  | sc => exact .inr h
  | err => exact .inr h
  | ro t pv =>
    obtain ⟨n, e, h1, h2⟩ := h
    exact .inr ⟨n, e, h1, h2.step (fun k hk ho => ht.ok k hk ho)⟩
  | con g t pv =>
    obtain ⟨h0, n, e, h1, h2⟩ := h
    exact .inr ⟨h0.trans (congrFun ht.gh.1 g).symm, n, e, h1, h2.step (fun k hk ho => ht.ok k hk ho)⟩
  | rop t pv =>
    obtain ⟨a, n, cs, h1, h2, h3, h4, h5⟩ := h
    have := ht.ok _ h3 h2
    refine .inr ⟨a, n, cs, h1, this.1, Nat.lt_of_lt_of_le h3 ht.size, fun q u hq => ?_, h5.step (fun k hk ho => ht.ok k hk ho)⟩
    exact (cell_same (w := M.w) (w' := M'.w) (a := a.add q) (by rw [add_block]; exact this.2)).trans (h4 q u hq)
  | ref id p =>
    have key : p = [] ∨ memB stale id = false → Leaf P M' (.ref id p) v := fun hs => by
      simp only [Leaf] at h ⊢
      by_cases hd : M'.oh id = .dead
      · rw [hd]; trivial
      · cases ho : M.oh id with
        | free => rw [ho] at h; exact h.elim
        | box => rw [ho] at h; exact h.elim
        | dead =>
          cases ht.ids id with
          | same h1 => rw [ho] at h1; exact absurd h1 hd
          | dead h1 => exact absurd h1 hd
          | row t pv h1 h2 h3 => rcases h3 with h3 | ⟨⟨_, h3⟩, _⟩ <;> rw [ho] at h3 <;> cases h3
          | box t sv g0 cs0 h1 hb1 hb2 hb3 hb4 h3 => rcases h3 with h3 | ⟨⟨_, h3⟩, _⟩ <;> rw [ho] at h3 <;> cases h3
          | hole t1 pv1 q h1 h2 h3 => obtain ⟨_, h3⟩ := h3; rw [ho] at h3; cases h3
          | fill t1 pv1 h1 h2 h3 => obtain ⟨_, _, h3⟩ := h3; rw [ho] at h3; cases h3
          | shl t1 ps1 h1 h2 h3 => rw [ho] at h3; cases h3
        | row u pv =>
          rw [ho] at h
          rcases RefAt.step hm ht ho hd hs h with ⟨⟨pv', e1⟩, e2⟩ | ⟨⟨pv', q, e1⟩, e2⟩
          · rw [e1]; exact e2
          · rw [e1]; exact e2
        | hole u pv q =>
          rw [ho] at h
          cases ht.ids id with
          | same h1 h2 => rw [ho] at h1; rw [h1, h2]; exact h
          | dead h1 => exact absurd h1 hd
          | row t pv h1 h2 h3 => rcases h3 with h3 | ⟨⟨_, h3⟩, _⟩ <;> rw [ho] at h3 <;> cases h3
          | box t sv g0 cs0 h1 hb1 hb2 hb3 hb4 h3 => rcases h3 with h3 | ⟨⟨_, h3⟩, _⟩ <;> rw [ho] at h3 <;> cases h3
          | hole t1 pv1 q h1 h2 h3 => obtain ⟨_, h3⟩ := h3; rw [ho] at h3; cases h3
          | shl t1 ps1 h1 h2 h3 => rw [ho] at h3; cases h3
          | fill t1 pv1 h1 h2 h3 h4 h5 =>
            have hp : p = [] := hs.elim (fun h => h) (fun h => by rw [h5] at h; cases h)
            rw [h1, h4]; exact .inl ⟨hp, h hp⟩
        | shl u qs =>
          rw [ho] at h
          obtain ⟨g1, g2⟩ := h
          cases ht.ids id with
          | same h1 h2 => rw [ho] at h1; rw [h1, h2]; exact ⟨g1, g2⟩
          | dead h1 => exact absurd h1 hd
          | row t pv h1 h2 h3 => rcases h3 with h3 | ⟨⟨_, h3⟩, _⟩ <;> rw [ho] at h3 <;> cases h3
          | box t sv g0 cs0 h1 hb1 hb2 hb3 hb4 h3 => rcases h3 with h3 | ⟨⟨_, h3⟩, _⟩ <;> rw [ho] at h3 <;> cases h3
          | hole t1 pv1 q h1 h2 h3 => obtain ⟨_, h3⟩ := h3; rw [ho] at h3; cases h3
          | fill t1 pv1 h1 h2 h3 => obtain ⟨_, _, h3⟩ := h3; rw [ho] at h3; cases h3
          | shl t1 ps1 h1 h2 h3 => rw [ho] at h3; cases h3
    cases p with
    | nil => exact .inr (key (.inl rfl))
    | cons s r =>
      simp only [freshen]
      cases hb : memB stale id
      · exact .inr (key (.inr hb))
      · exact .inl rfl
  | view id p lo hi =>
    have key : p = [] ∨ memB stale id = false → Leaf P M' (.view id p lo hi) v := fun hs => by
      simp only [Leaf] at h ⊢
      by_cases hd : M'.oh id = .dead
      · rw [hd]; trivial
      · cases ho : M.oh id with
        | free => rw [ho] at h; exact h.elim
        | box => rw [ho] at h; exact h.elim
        | dead =>
          cases ht.ids id with
          | same h1 => rw [ho] at h1; exact absurd h1 hd
          | dead h1 => exact absurd h1 hd
          | row t pv h1 h2 h3 => rcases h3 with h3 | ⟨⟨_, h3⟩, _⟩ <;> rw [ho] at h3 <;> cases h3
          | box t sv g0 cs0 h1 hb1 hb2 hb3 hb4 h3 => rcases h3 with h3 | ⟨⟨_, h3⟩, _⟩ <;> rw [ho] at h3 <;> cases h3
          | hole t1 pv1 q h1 h2 h3 => obtain ⟨_, h3⟩ := h3; rw [ho] at h3; cases h3
          | fill t1 pv1 h1 h2 h3 => obtain ⟨_, _, h3⟩ := h3; rw [ho] at h3; cases h3
          | shl t1 ps1 h1 h2 h3 => rw [ho] at h3; cases h3
        | row u pv =>
          rw [ho] at h
          obtain ⟨e, A, len, cap, A', cap', g1, g2, g3⟩ := h
          rcases RefAt.step hm ht ho hd hs g2 with ⟨⟨pv', e1⟩, e2⟩ | ⟨⟨pv', q, e1⟩, e2⟩
          · rw [e1]; exact ⟨e, A, len, cap, A', cap', g1, e2, g3⟩
          · rw [e1]
            exact fun hp => ⟨e, A, len, cap, A', cap', g1, e2 hp, g3⟩
        | hole u pv q =>
          rw [ho] at h
          cases ht.ids id with
          | same h1 h2 => rw [ho] at h1; rw [h1, h2]; exact h
          | dead h1 => exact absurd h1 hd
          | row t pv h1 h2 h3 => rcases h3 with h3 | ⟨⟨_, h3⟩, _⟩ <;> rw [ho] at h3 <;> cases h3
          | box t sv g0 cs0 h1 hb1 hb2 hb3 hb4 h3 => rcases h3 with h3 | ⟨⟨_, h3⟩, _⟩ <;> rw [ho] at h3 <;> cases h3
          | hole t1 pv1 q h1 h2 h3 => obtain ⟨_, h3⟩ := h3; rw [ho] at h3; cases h3
          | shl t1 ps1 h1 h2 h3 => rw [ho] at h3; cases h3
          | fill t1 pv1 h1 h2 h3 h4 h5 =>
            have hp : p = [] := hs.elim (fun h => h) (fun h => by rw [h5] at h; cases h)
            obtain ⟨e, A, len, cap, A', cap', g1, g2, g3⟩ := h hp
            obtain ⟨_, _, h3⟩ := h3
            rw [ho] at h3; injection h3 with e1; subst e1
            rw [h1, h4]; exact ⟨e, A, len, cap, A', cap', g1, .inl ⟨hp, g2⟩, g3⟩
        | shl u qs =>
          rw [ho] at h
          obtain ⟨g0, e, A, len, cap, A', cap', g1, g2, g3⟩ := h
          cases ht.ids id with
          | same h1 h2 => rw [ho] at h1; rw [h1, h2]; exact ⟨g0, e, A, len, cap, A', cap', g1, g2, g3⟩
          | dead h1 => exact absurd h1 hd
          | row t pv h1 h2 h3 => rcases h3 with h3 | ⟨⟨_, h3⟩, _⟩ <;> rw [ho] at h3 <;> cases h3
          | box t sv g0 cs0 h1 hb1 hb2 hb3 hb4 h3 => rcases h3 with h3 | ⟨⟨_, h3⟩, _⟩ <;> rw [ho] at h3 <;> cases h3
          | hole t1 pv1 q h1 h2 h3 => obtain ⟨_, h3⟩ := h3; rw [ho] at h3; cases h3
          | fill t1 pv1 h1 h2 h3 => obtain ⟨_, _, h3⟩ := h3; rw [ho] at h3; cases h3
          | shl t1 ps1 h1 h2 h3 => rw [ho] at h3; cases h3
    cases p with
    | nil => exact .inr (key (.inl rfl))
    | cons s r =>
      simp only [freshen]
      cases hb : memB stale id
      · exact .inr (key (.inr hb))
      · exact .inl rfl
  | ptr id p =>
    have key : twoIdx p = false ∨ memB stale id = false → Leaf P M' (.ptr id p) v := fun hs => by
      simp only [Leaf] at h ⊢
      by_cases hd : M'.oh id = .dead
      · rw [hd]; trivial
      · cases ho : M.oh id with
        | free => rw [ho] at h; exact h.elim
        | dead =>
          cases ht.ids id with
          | same h1 => rw [ho] at h1; exact absurd h1 hd
          | dead h1 => exact absurd h1 hd
          | row t pv h1 h2 h3 => rcases h3 with h3 | ⟨⟨_, h3⟩, _⟩ <;> rw [ho] at h3 <;> cases h3
          | box t sv g0 cs0 h1 hb1 hb2 hb3 hb4 h3 => rcases h3 with h3 | ⟨⟨_, h3⟩, _⟩ <;> rw [ho] at h3 <;> cases h3
          | hole t1 pv1 q h1 h2 h3 => obtain ⟨_, h3⟩ := h3; rw [ho] at h3; cases h3
          | fill t1 pv1 h1 h2 h3 => obtain ⟨_, _, h3⟩ := h3; rw [ho] at h3; cases h3
          | shl t1 ps1 h1 h2 h3 => rw [ho] at h3; cases h3
        | box u sv =>
          rw [ho] at h
          obtain ⟨g, o, t', a1, a2, a3⟩ := h
          cases ht.ids id with
          | same h1 h2 => rw [ho] at h1; rw [h1, h2]; exact ⟨g, o, t', a1, a2, a3⟩
          | dead h1 => exact absurd h1 hd
          | row t pv h1 h2 h3 => rcases h3 with h3 | ⟨⟨_, h3⟩, _⟩ <;> rw [ho] at h3 <;> cases h3
          | hole t1 pv1 q h1 h2 h3 => obtain ⟨_, h3⟩ := h3; rw [ho] at h3; cases h3
          | fill t1 pv1 h1 h2 h3 => obtain ⟨_, _, h3⟩ := h3; rw [ho] at h3; cases h3
          | shl t1 ps1 h1 h2 h3 => rw [ho] at h3; cases h3
          | box t sv g0 cs0 h1 hb1 hb2 hb3 hb4 h3 =>
            rcases h3 with h3 | ⟨⟨_, h3⟩, h4⟩ <;> rw [ho] at h3
            · cases h3
            · injection h3 with e1 e2; subst e1
              rw [h1, h4]; exact ⟨g, o, t', a1, a2, a3⟩
        | row u pv =>
          rw [ho] at h
          obtain ⟨a, t', a1, a2⟩ := h
          obtain ⟨n, how⟩ := hm.row id u pv ho
          cases ht.ids id with
          | same h1 h2 h3 h4 => rw [h1, freshenOwn_row ho, h2]; exact ⟨a, t', a1, a2.frame how h4⟩
          | dead h1 => exact absurd h1 hd
          | row t pv1 h1 h2 h3 =>
            rcases h3 with h3 | ⟨⟨_, h3⟩, h4, h5⟩ <;> rw [ho] at h3
            · cases h3
            · injection h3 with e1 e2; subst e1
              rw [h1, h4]
              refine ⟨a, t', a1, ?_⟩
              rcases h5 with h5 | h5
              · exact (a2.flat h5).1
              · rcases hs with hs | hs
                · exact a2.still hs
                · rw [h5] at hs; cases hs
          | box t sv g0 cs0 h1 hb1 hb2 hb3 hb4 h3 => rcases h3 with h3 | ⟨⟨_, h3⟩, _⟩ <;> rw [ho] at h3 <;> cases h3
          | fill t1 pv1 h1 h2 h3 => obtain ⟨_, _, h3⟩ := h3; rw [ho] at h3; cases h3
          | shl t1 ps1 h1 h2 h3 => rw [ho] at h3; cases h3
          | hole t1 pv1 q h1 h2 h3 h4 =>
            obtain ⟨_, h3⟩ := h3
            rw [ho] at h3; injection h3 with e1 e2; subst e1
            rw [h1, h4]
            exact fun a0 => ⟨a, t', a1, a2.still a0⟩
        | hole u pv q =>
          rw [ho] at h
          cases ht.ids id with
          | same h1 h2 h3 h4 => rw [ho] at h1; rw [h1, h2]; exact fun a0 => by obtain ⟨a, t', a1, a2⟩ := h a0; exact ⟨a, t', a1, a2.still a0⟩
          | dead h1 => exact absurd h1 hd
          | row t pv h1 h2 h3 => rcases h3 with h3 | ⟨⟨_, h3⟩, _⟩ <;> rw [ho] at h3 <;> cases h3
          | box t sv g0 cs0 h1 hb1 hb2 hb3 hb4 h3 => rcases h3 with h3 | ⟨⟨_, h3⟩, _⟩ <;> rw [ho] at h3 <;> cases h3
          | hole t1 pv1 q h1 h2 h3 => obtain ⟨_, h3⟩ := h3; rw [ho] at h3; cases h3
          | shl t1 ps1 h1 h2 h3 => rw [ho] at h3; cases h3
          | fill t1 pv1 h1 h2 h3 h4 h5 =>
            have a0 : twoIdx p = false := hs.elim (fun h => h) (fun h => by rw [h5] at h; cases h)
            obtain ⟨a, t', a1, a2⟩ := h a0
            obtain ⟨_, _, h3⟩ := h3
            rw [ho] at h3; injection h3 with e1; subst e1
            rw [h1, h4]; exact ⟨a, t', a1, a2.still a0⟩
        | shl u qs =>
          rw [ho] at h
          obtain ⟨a0, a, t', a1, a2⟩ := h
          cases ht.ids id with
          | same h1 h2 h3 h4 => rw [ho] at h1; rw [h1, h2]; exact ⟨a0, a, t', a1, a2.still a0⟩
          | dead h1 => exact absurd h1 hd
          | row t pv h1 h2 h3 => rcases h3 with h3 | ⟨⟨_, h3⟩, _⟩ <;> rw [ho] at h3 <;> cases h3
          | box t sv g0 cs0 h1 hb1 hb2 hb3 hb4 h3 => rcases h3 with h3 | ⟨⟨_, h3⟩, _⟩ <;> rw [ho] at h3 <;> cases h3
          | hole t1 pv1 q h1 h2 h3 => obtain ⟨_, h3⟩ := h3; rw [ho] at h3; cases h3
          | fill t1 pv1 h1 h2 h3 => obtain ⟨_, _, h3⟩ := h3; rw [ho] at h3; cases h3
          | shl t1 ps1 h1 h2 h3 => rw [ho] at h3; cases h3
    simp only [freshen]
    cases hb : memB stale id
    · exact .inr (key (.inr hb))
    · cases ht2 : twoIdx p
      · exact .inr (key (.inl ht2))
      · exact .inl rfl
mutual
theorem SVc.step (hm : Mem P C M) (ht : Trans P C M M' stale) : ∀ {t : TypeId} {x : SV} {cs : List Value}, SVc P M t x cs → SVc P M' t (freshen stale x) cs
  | t, _, cs, .junk _ _ h1 h2 => .junk t cs h1 h2
  | t, x, _, .leaf _ _ v h1 h2 h3 h4 => by
    rcases h1.step hm ht with h | h
    · rw [h]; exact .junk _ _ (by simp [h3]) (by simpa using h2)
    · exact .leaf t _ v h h2 h3 h4
  | t, _, cs, .agg _ u fs xs _ h1 h2 h3 => .agg t u fs _ cs h1 h2 (SVcL.step hm ht h3)
  | t, _, cs, .arr _ u k pv _ h1 h2 => .arr t u k pv cs h1 h2
theorem SVcL.step (hm : Mem P C M) (ht : Trans P C M M' stale) : ∀ {ts : List TypeId} {xs : List SV} {cs : List Value}, SVcL P M ts xs cs → SVcL P M' ts (freshenL stale xs) cs
  | _, _, _, .nil => .nil
  | _, _, _, .cons t ts x xs c cs h1 h2 => .cons t ts _ _ c cs (SVc.step hm ht h1) (SVcL.step hm ht h2)
end
theorem freshenL_get : ∀ {xs : List SV} {i : Nat} {y : SV}, (freshenL stale xs)[i]? = some y → ∃ x, xs[i]? = some x ∧ y = freshen stale x
  | [], i, y, h => by simp [freshenL] at h
  | x :: r, 0, y, h => ⟨x, rfl, by simpa [freshenL] using h.symm⟩
  | x :: r, i + 1, y, h => by
    obtain ⟨z, h1, h2⟩ := freshenL_get (xs := r) (i := i) (by simpa [freshenL] using h)
    exact ⟨z, by simpa using h1, h2⟩
theorem freshenL_length : ∀ {xs : List SV}, (freshenL stale xs).length = xs.length
  | [] => rfl
  | x :: r => by simp [freshenL, freshenL_length (xs := r)]
theorem Slot.step (hm : Mem P C M) (ht : Trans P C M M' stale) (h : Slot P M x v) : Slot P M' (freshen stale x) v := by
  induction h with
  | junk v => exact .junk v
  | undef => exact .undef
  | leaf x v h1 h2 =>
    rcases h1.step hm ht with h | h
    · rw [h]; exact .junk v
    · exact .leaf _ v h h2
  | agg u xs cs h1 => exact .agg u _ cs (h1.step hm ht)
  | arr u k pv cs h1 => exact .arr u k pv cs h1
  | tup xs vs h1 h2 ih =>
    refine .tup _ vs (by rw [freshenL_length]; exact h1) (fun i y v hy hv => ?_)
    obtain ⟨x, h3, h4⟩ := freshenL_get hy
    subst h4
    exact ih i x v h3 hv
mutual
theorem freshen_nil : ∀ (x : SV), freshen [] x = x
  | .junk | .undef | .nil | .sc _ | .err _ | .ro _ _ | .con _ _ _ | .rop _ _ | .arr _ _ _ => rfl
  | .ref id [] => rfl
  | .ref id (s :: r) => by simp [freshen, memB]
  | .view id [] a b => rfl
  | .view id (s :: r) a b => by simp [freshen, memB]
  | .ptr id p => by simp [freshen, memB]
  | .agg t xs => by rw [freshen, freshenL_nil xs]
  | .tup xs => by rw [freshen, freshenL_nil xs]
theorem freshenL_nil : ∀ (xs : List SV), freshenL [] xs = xs
  | [] => rfl
  | x :: r => by rw [freshenL, freshen_nil x, freshenL_nil r]
end
theorem freshenOwn_nil (o : Own) : freshenOwn [] o = o := by cases o <;> simp [freshenOwn, freshen_nil]
/-- Memory behind a step. -/
theorem Trans.mem (hm : Mem P C M) (ht : Trans P C M M' stale) : Mem P C M' where
  kept := ht.kept
  nd := ht.nd
  dj := ht.dj
  own := ht.own
  new := hm.new
  gh := ⟨ht.gh.1.trans hm.gh.1, ht.gh.2.trans hm.gh.2⟩
  row := fun id t pv h => by
    cases ht.ids id with
    | same h1 h2 h3 h4 =>
      cases ho : M.oh id with
      | row u pv0 =>
        rw [ho, h] at h1; simp only [freshenOwn] at h1
        injection h1 with e1 e2; subst e1 e2
        obtain ⟨n, hn⟩ := hm.row id _ _ ho
        exact ⟨n, by rw [h2, h3]; exact hn.frame h4⟩
      | _ => rw [ho, h] at h1; simp only [freshenOwn] at h1; cases h1
    | dead h1 => rw [h1] at h; cases h
    | row u pv1 h1 h2 h3 => rw [h1] at h; injection h with e1 e2; subst e1 e2; exact h2
    | box u sv g0 cs0 h1 => rw [h1] at h; cases h
    | hole u pv1 q h1 => rw [h1] at h; cases h
    | fill u pv1 h1 h2 => rw [h1] at h; injection h with e1 e2; subst e1 e2; exact h2
    | shl u qs h1 => rw [h1] at h; cases h
  shl := fun id t ps h => by
    cases ht.ids id with
    | same h1 h2 h3 h4 =>
      cases ho : M.oh id with
      | shl u qs =>
        rw [ho, h] at h1; simp only [freshenOwn] at h1
        injection h1 with e1 e2; subst e1 e2
        rw [h2, h3]
        exact (hm.shl id _ _ ho).step h4 (fun k hk hok => ht.ok k hk hok)
      | _ => rw [ho, h] at h1; simp only [freshenOwn] at h1; cases h1
    | dead h1 => rw [h1] at h; cases h
    | row u pv1 h1 => rw [h1] at h; cases h
    | box u sv g0 cs0 h1 => rw [h1] at h; cases h
    | hole u pv1 q h1 h2 => rw [h1] at h; cases h
    | fill u pv1 h1 => rw [h1] at h; cases h
    | shl u qs h1 h2 => rw [h1] at h; injection h with e1 e2; subst e1 e2; exact h2
  hol := fun id t pv p h => by
    cases ht.ids id with
    | same h1 h2 h3 h4 =>
      cases ho : M.oh id with
      | hole u pv0 q =>
        rw [ho, h] at h1; simp only [freshenOwn] at h1
        injection h1 with e1 e2 e3; subst e1 e2 e3
        rw [h2, h3]
        exact (hm.hol id _ _ _ ho).frame h4 ht.size
      | _ => rw [ho, h] at h1; simp only [freshenOwn] at h1; cases h1
    | dead h1 => rw [h1] at h; cases h
    | row u pv1 h1 => rw [h1] at h; cases h
    | box u sv g0 cs0 h1 => rw [h1] at h; cases h
    | hole u pv1 q h1 h2 => rw [h1] at h; injection h with e1 e2 e3; subst e1 e2 e3; exact h2
    | fill u pv1 h1 => rw [h1] at h; cases h
    | shl u qs h1 => rw [h1] at h; cases h
  box := fun id t sv h => by
    cases ht.ids id with
    | same h1 h2 h3 h4 =>
      cases ho : M.oh id with
      | box u sv0 =>
        rw [ho, h] at h1; simp only [freshenOwn] at h1
        injection h1 with e1 e2; subst e1 e2
        obtain ⟨g, cs, a1, a2, a3, a4⟩ := hm.box id _ _ ho
        exact ⟨g, cs, by rw [h2]; exact a1, by rw [h3]; exact a2, (h4 g (by rw [a2]; simp)).trans a3, a4.step hm ht⟩
      | _ => rw [ho, h] at h1; simp only [freshenOwn] at h1; cases h1
    | dead h1 => rw [h1] at h; cases h
    | box u sv1 g0 cs0 h1 hb1 hb2 hb3 hb4 h3 => rw [h1] at h; injection h with e1 e2; subst e1 e2; exact ⟨g0, cs0, hb1, hb2, hb3, hb4.step hm ht⟩
    | row u sv h1 => rw [h1] at h; cases h
    | hole u pv1 q h1 => rw [h1] at h; cases h
    | fill u pv1 h1 => rw [h1] at h; cases h
    | shl u qs h1 => rw [h1] at h; cases h
  none_ := fun id hr hb hh hs => by
    cases ht.ids id with
    | same h1 h2 h3 h4 =>
      rw [h3]
      refine hm.none_ id (fun t pv ho => ?_) (fun t sv ho => ?_) (fun t pv p ho => ?_) (fun t ps ho => ?_)
      · rw [ho] at h1; exact hr _ _ h1
      · rw [ho] at h1; exact hb _ _ h1
      · rw [ho] at h1; exact hh _ _ _ h1
      · rw [ho] at h1; exact hs _ _ h1
    | dead h1 h2 => exact h2
    | row u pv1 h1 h2 h3 => exact absurd h1 (hr _ _)
    | box u sv g0 cs0 h1 => exact absurd h1 (hb _ _)
    | hole u pv1 q h1 => exact absurd h1 (hh _ _ _)
    | fill u pv1 h1 => exact absurd h1 (hr _ _)
    | shl u qs h1 => exact absurd h1 (hs _ _)
  pin := fun id hid h => by
    cases ht.ids id with
    | same h1 h2 h3 h4 =>
      rw [h2]
      refine hm.pin id hid ?_
      cases ho : M.oh id with
      | row u pv0 => exact .inl ⟨u, pv0, rfl⟩
      | box u sv0 => exact .inr (.inl ⟨u, sv0, rfl⟩)
      | hole u pv0 q => exact .inr (.inr (.inl ⟨u, pv0, q, rfl⟩))
      | shl u qs => exact .inr (.inr (.inr ⟨u, qs, rfl⟩))
      | free =>
        rw [ho] at h1; simp only [freshenOwn] at h1
        rcases h with ⟨t, pv, h⟩ | ⟨t, pv, h⟩ | ⟨t, pv, q, h⟩ | ⟨t, pv, h⟩ <;> rw [h1] at h <;> cases h
      | dead =>
        rw [ho] at h1; simp only [freshenOwn] at h1
        rcases h with ⟨t, pv, h⟩ | ⟨t, pv, h⟩ | ⟨t, pv, q, h⟩ | ⟨t, pv, h⟩ <;> rw [h1] at h <;> cases h
    | dead h1 => rcases h with ⟨t, pv, h⟩ | ⟨t, pv, h⟩ | ⟨t, pv, q, h⟩ | ⟨t, pv, h⟩ <;> rw [h1] at h <;> cases h
    | hole u pv1 q h1 h2 h3 h4 => obtain ⟨pv0, h3⟩ := h3; rw [h4]; exact hm.pin id hid (.inl ⟨_, _, h3⟩)
    | fill u pv1 h1 h2 h3 h4 => obtain ⟨pv0, q, h3⟩ := h3; rw [h4]; exact hm.pin id hid (.inr (.inr (.inl ⟨_, _, _, h3⟩)))
    | shl u qs h1 h2 h3 => exact absurd h3 (ht.pin id hid)
    | row u pv1 h1 h2 h3 =>
      rcases h3 with h3 | ⟨⟨pv0, h3⟩, h4, _⟩
      · exact absurd h3 (ht.pin id hid)
      · rw [h4]; exact hm.pin id hid (.inl ⟨_, _, h3⟩)
    | box u sv g0 cs0 h1 hb1 hb2 hb3 hb4 h3 =>
      rcases h3 with h3 | ⟨⟨sv0, h3⟩, h4⟩
      · exact absurd h3 (ht.pin id hid)
      · rw [h4]; exact hm.pin id hid (.inr (.inl ⟨_, _, h3⟩))
end
/-! ### The package-level variables that are known -/
def glLook : List (Nat × TypeId × PV) → Nat → Option (TypeId × PV)
  | [], _ => none
  | (g, t, pv) :: r, i => bif Nat.beq g i then some (t, pv) else glLook r i
theorem glLook_mem : ∀ {l : List (Nat × TypeId × PV)} {i : Nat} {t : TypeId} {pv : PV}, glLook l i = some (t, pv) → (i, t, pv) ∈ l
  | [], _, _, _, h => by cases h
  | (g, t', pv') :: r, i, t, pv, h => by
    unfold glLook at h
    cases hb : Nat.beq g i <;> simp only [hb, cond_true, cond_false] at h
    · exact List.mem_cons_of_mem _ (glLook_mem h)
    · injection h with h; injection h with h1 h2; subst h1 h2
      rw [Nat.beq_eq.mp hb]; exact List.mem_cons_self
def GlAt (P : Program) (ok : Nat → Prop) (w : World) (g : Nat) (t : TypeId) (pv : PV) : Prop :=
  ok g ∧ g < w.heap.size ∧ ∃ n cs, Loc w ⟨g, 0, none⟩ cs ∧ Rd P ok w n t pv cs
/-- A block of one whole number. -/
def someI64 (o : Obj) : Prop := ∃ cs t fz m, o = .cells cs t fz ∧ cs[0]? = some (.int .i64 m)
/-- Known: the trees of some variables, and facts on some blocks. -/
@[reducible] def glbOf (P : Program) (gs : List (Nat × TypeId × PV)) (fs : List (Nat × (Obj → Prop))) : Glb P where
  gl := glLook gs
  holds ok w := (∀ x ∈ gs, GlAt P ok w x.1 x.2.1 x.2.2) ∧ ∀ x ∈ fs, ok x.1 ∧ ∃ o, w.heap[x.1]? = some o ∧ x.2 o
  step := fun {ok ok' w w'} h hsz hs => ⟨fun x hx => by
    obtain ⟨h1, h2, n, cs, h3, h4⟩ := h.1 x hx
    obtain ⟨h5, h6⟩ := hs x.1 h2 h1
    have h6' : ∀ q, w'.heap[((⟨x.1, 0, none⟩ : Addr).add q).block]? = w.heap[((⟨x.1, 0, none⟩ : Addr).add q).block]? := fun q => by
      have : ((⟨x.1, 0, none⟩ : Addr).add q).block = x.1 := by unfold Addr.add; split <;> rfl
      rw [this]; exact h6
    exact ⟨h5, Nat.lt_of_lt_of_le h2 hsz, n, cs, fun q u hq => by
      have h7 := h3 q u hq
      exact (cell_same (a := (⟨x.1, 0, none⟩ : Addr).add q) (h6' q)).trans h7, h4.step hs⟩, fun x hx => by
    obtain ⟨h1, o, h2, h3⟩ := h.2 x hx
    obtain ⟨h5, h6⟩ := hs x.1 (Array.getElem?_eq_some_iff.1 h2).1 h1
    exact ⟨h5, o, h6.trans h2, h3⟩⟩
  rd := fun h hg => h.1 _ (glLook_mem hg)
end Go.Proofs.YtfbkfhdlingedaaAm

/-! Each operation does in the model what the machine says. -/
namespace Go.Proofs.YtfbkfhdlingedaaAm
open Go RowKit

def newOh (oh : Nat → Own) (e : Eff) : Nat → Own := fun i => freshenOwn e.stale (e.ws.foldl (fun h x => upd h x.1 x.2) oh i)
/-- From M, effect e: the value v comes out, in the world w'. -/
def Goes (P : Program) (C : Cx) (M : Mm) (e : Eff) (v : Value) (w' : World) : Prop :=
  ∃ G', Trans P C M ⟨w', newOh M.oh e, G'⟩ e.stale ∧ Slot P ⟨w', newOh M.oh e, G'⟩ (freshen e.stale e.val) v
section
variable {P : Program} {C : Cx} {M : Mm} {x : SV} {v : Value}
theorem Mem.refl (hm : Mem P C M) (hp : ∀ id, id < C.pins → M.oh id ≠ .free) : Trans P C M M [] where
  kept := hm.kept
  size := Nat.le_refl _
  ids := fun id => .same (freshenOwn_nil _).symm rfl rfl (fun _ _ => rfl)
  nd := hm.nd
  dj := hm.dj
  own := hm.own
  pin := hp
  ok := fun k _ h => ⟨h, rfl⟩
  gh := ⟨rfl, rfl⟩
theorem newOh_nil (oh : Nat → Own) (x : SV) : newOh oh ⟨x, [], [], []⟩ = oh := funext fun i => freshenOwn_nil _
theorem goes_pure (hm : Mem P C M) (hp : ∀ id, id < C.pins → M.oh id ≠ .free) (h : Slot P M x v) : Goes P C M ⟨x, [], [], []⟩ v M.w := by
  refine ⟨M.G, ?_, ?_⟩
  · rw [newOh_nil]; exact hm.refl hp
  · rw [newOh_nil, freshen_nil]; exact h
theorem Slot.leaf_inv (h : Slot P M x v) (hx : ∀ t xs, x ≠ .agg t xs) (hx2 : ∀ xs, x ≠ .tup xs) (hj : x ≠ .junk) (hu : x ≠ .undef) (ha : ∀ t k pv, x ≠ .arr t k pv) : Leaf P M x v ∧ one v = true := by
  cases h with
  | junk => exact absurd rfl hj
  | undef => exact absurd rfl hu
  | leaf _ _ h1 h2 => exact ⟨h1, h2⟩
  | agg => exact absurd rfl (hx _ _)
  | tup => exact absurd rfl (hx2 _)
  | arr => exact absurd rfl (ha _ _ _)
theorem Slot.sc_inv {c : Value} (h : Slot P M (.sc c) v) : v = c ∧ one v = true := by
  obtain ⟨h1, h2⟩ := h.leaf_inv (by simp) (by simp) (by simp) (by simp) (by simp)
  exact ⟨h1, h2⟩
theorem slot_sc {c : Value} (h : one c = true) : Slot P M (.sc c) c := .leaf _ _ rfl h
def OpOk (P : Program) (C : Cx) (M : Mm) (o : Oper) (a : Act) (e : Eff) : Prop :=
  ∀ (K : Act → World → Prop) (Q : Exit → Act → World → Prop), (∀ v w', Goes P C M e v w' → K (a.put o.dst v) w') → o.wp P a M.w K Q
variable {o : Oper} {a : Act} {e : Eff}
theorem opOk_val {w' : World} (h : (execOp a.eval o).run P M.w = .ok (.value v) w') (hg : Goes P C M e v w') : OpOk P C M o a e := fun K Q hK => by
  unfold Oper.wp; rw [h]; exact hK _ _ hg
theorem opOk_skip {w' : World} (h : (execOp a.eval o).run P M.w = .ok .skip w') (hg : Goes P C M e undef w') : OpOk P C M o a e := fun K Q hK => by
  unfold Oper.wp; rw [h]; exact hK _ _ hg
/-- What every operation has at hand. -/
structure At (P : Program) [Glb P] (C : Cx) (M : Mm) : Prop where
  mem : Mem P C M
  pins : ∀ id, id < C.pins → M.oh id ≠ .free
  glb : Glb.holds (P := P) C.rok C.W
  ap : ∀ k, k < C.W.heap.size → C.rok k → ¬ C.may k
variable [Glb P]
/-- The package-level variables are as they were. -/
theorem At.holds (h : At P C M) : Glb.holds (P := P) M.ok M.w :=
  Glb.step h.glb h.mem.kept.size (fun k hk hr => ⟨⟨by rw [h.mem.gh.2]; exact hr, fun id hid => h.ap k hk hr (h.mem.own id k hid)⟩, h.mem.kept.block k hk (h.ap k hk hr)⟩)
theorem At.global (h : At P C M) {g : Nat} {t : TypeId} {pv : PV} (hg : Gl.gl P g = some (t, pv)) : Slot P M (.rop t pv) (.pointer (some ⟨g, 0, none⟩)) := by
  obtain ⟨h1, h2, n, cs, h3, h4⟩ := Glb.rd h.holds hg
  exact .leaf _ _ ⟨⟨g, 0, none⟩, n, cs, rfl, h1, h2, h3, h4⟩ rfl
theorem At.pure (h : At P C M) (hs : Slot P M x v) : Goes P C M ⟨x, [], [], []⟩ v M.w := goes_pure h.mem h.pins hs
theorem ok_move (hm : At P C M) {y : Operand} (ho : o.op = .move y) (hs : Slot P M x (a.eval y)) : OpOk P C M o a ⟨x, [], [], []⟩ :=
  opOk_val (by simp [execOp, ho]) (hm.pure hs)
theorem ok_assign (hm : At P C M) {y : Operand} (ho : o.op = .assign y) (hs : Slot P M x (a.eval y)) : OpOk P C M o a ⟨x, [], [], []⟩ :=
  opOk_val (by simp [execOp, ho]) (hm.pure hs)
theorem ok_pick (hm : At P C M) {c y z : Operand} (ho : o.op = .pick c y z) {sc sy sz : SV} (hc : Slot P M sc (a.eval c)) (hy : Slot P M sy (a.eval y)) (hz : Slot P M sz (a.eval z)) (h : ePick some sc sy sz = some e) : OpOk P C M o a e := by
  unfold ePick at h
  split at h
  · have := hc.sc_inv.1
    split at h <;> rename_i hb <;> injection h with h <;> subst h
    · exact opOk_val (by simp [execOp, ho, this, asBool, hb]) (hm.pure hy)
    · exact opOk_val (by simp [execOp, ho, this, asBool, hb]) (hm.pure hz)
  · cases h
theorem intOp_spec {op : BinOp} {k : IntKind} {i j : Int} {t : TypeId} (h : intOp op k i j (fun v => some (⟨.sc v, [], [], []⟩ : Eff)) = some e) (w : World) :
    ∃ v, e = ⟨.sc v, [], [], []⟩ ∧ one v = true ∧ (binOp op t (.int k i) (.int k j)).run P w = .ok v w := by
  unfold intOp at h
  split at h
  all_goals first
    | (cases h; done)
    | (injection h with h; subst h; refine ⟨_, rfl, rfl, ?_⟩; simp [binOp, Op.intArith, Op.intCmp, GT.gt, GE.ge]; done)
    | (injection h with h; subst h; refine ⟨_, rfl, rfl, ?_⟩; simp [binOp, Op.intBits, bAnd, bOr, bXor, bAndNot]; done)
    | (injection h with h; subst h; refine ⟨_, rfl, rfl, ?_⟩; simp only [binOp, Op.intArith, Op.intCmp]; simp; first | done | rfl | (cases hd : decide (i = j) <;> simp_all))
    | (split at h
       · cases h
       · rename_i hz; injection h with h; subst h; exact ⟨_, rfl, rfl, by simp [binOp, Op.intDiv, hz]⟩)
theorem strOp_spec {op : BinOp} {i j : ByteArray} {t : TypeId} (h : strOp op i j (fun v => some (⟨.sc v, [], [], []⟩ : Eff)) = some e) (w : World) :
    ∃ v, e = ⟨.sc v, [], [], []⟩ ∧ one v = true ∧ (binOp op t (.string i) (.string j)).run P w = .ok v w := by
  have hmax : IntKind.i64.max = 9223372036854775807 := by decide
  unfold strOp at h
  split at h
  all_goals first
    | (cases h; done)
    | (split at h
       · rename_i hz; injection h with h; subst h; refine ⟨_, rfl, rfl, ?_⟩
         have : ¬ (((i.size + j.size : Nat) : Int) > IntKind.i64.max) := by rw [hmax]; omega
         simp only [binOp, Op.stringOp, this, if_false]; rfl
       · cases h)
    | (injection h with h; subst h; refine ⟨_, rfl, rfl, ?_⟩; simp only [binOp, Op.stringOp]; simp [Bool.beq_eq_decide_eq]; done)
    | (injection h with h; subst h; refine ⟨_, rfl, rfl, ?_⟩; simp only [binOp, Op.stringOp]; rfl)
theorem tk_bool {t : TypeId} (h : tk P t = .bool) : P.underlying t = some .bool := by
  unfold tk at h
  split at h <;> first | (rename_i hu; exact hu) | cases h | (simp only [cond_eq_ite] at h; split at h <;> cases h)
theorem tk_str {t : TypeId} (h : tk P t = .str) : P.underlying t = some .string := by
  unfold tk at h
  split at h <;> first | (rename_i hu; exact hu) | cases h | (simp only [cond_eq_ite] at h; split at h <;> cases h)
theorem tk_int {t : TypeId} {k : IntKind} (h : tk P t = .int k) : P.underlying t = some (.int k) := by
  unfold tk at h
  split at h
  · rename_i k' hu; simp only [cond_eq_ite] at h; split at h
    · injection h with h; subst h; exact hu
    · cases h
  all_goals first | cases h | (simp only [cond_eq_ite] at h; split at h <;> cases h)
theorem tk_slice {t e : TypeId} (h : tk P t = .slice e) : P.underlying t = some (.slice e) ∧ elemOk P e = true := by
  unfold tk at h
  split at h
  case h_4 e' hu =>
    simp only [cond_eq_ite] at h; split at h
    · rename_i hc; injection h with h; subst h; simp at hc; exact ⟨hu, hc.2⟩
    · cases h
  all_goals first | cases h | (simp only [cond_eq_ite] at h; split at h <;> cases h)
theorem tk_struct {t : TypeId} {fs : List TypeId} (h : tk P t = .struct fs) (hna : isArr P t = false) : ∃ gs, P.underlying t = some (.struct gs) ∧ laid P 0 gs.toList (sizeOf P t) = true ∧ fs = gs.toList.map (·.type) := by
  unfold tk at h
  split at h
  case h_5 gs hu =>
    simp only [cond_eq_ite] at h; split at h
    · rename_i hc; injection h with h; subst h; exact ⟨gs, hu, hc, rfl⟩
    · cases h
  case h_6 n e hu => simp [isArr, arrOf, hu] at hna
  all_goals first | cases h | (simp only [cond_eq_ite] at h; split at h <;> cases h)
theorem arrOf_some {t : TypeId} {n : Nat} {e : TypeId} (h : arrOf P t = some (n, e)) : P.underlying t = some (.array n e) := by
  unfold arrOf at h
  split at h
  · rename_i hu; injection h with h; injection h with h1 h2; subst h1 h2; exact hu
  · cases h
theorem tk_arr {t : TypeId} {n : Nat} {e : TypeId} {fs : List TypeId} (h : arrOf P t = some (n, e)) (ht : tk P t = .struct fs) : fs = List.replicate n e ∧ sizeOf P t = n ∧ sizeOf P e = 1 ∧ ∃ k, P.underlying e = some (.int k) ∧ tk P e = .int k := by
  have hu := arrOf_some h
  unfold tk at ht
  simp only [hu] at ht
  cases hf : arrFit P t n e <;> rw [hf] at ht
  · cases ht
  · simp only [cond_true] at ht
    injection ht with ht
    simp only [arrFit, Bool.and_eq_true, Nat.beq_eq] at hf
    refine ⟨ht.symm, hf.1.1, hf.1.2, ?_⟩
    have h2 := hf.2
    unfold intTy at h2
    cases hk : P.underlying e with
    | none => rw [hk] at h2; simp at h2
    | some d =>
      rw [hk] at h2
      cases d <;> simp at h2
      case int k => exact ⟨k, rfl, by unfold tk; simp only [hk]; rw [hf.1.2]; rfl⟩
theorem notArr {t : TypeId} (h : isArr P t = false) : arrOf P t = none := by
  unfold isArr at h
  cases ha : arrOf P t with
  | none => rfl
  | some x => rw [ha] at h; cases h
theorem notArr' {t : TypeId} (h : arrOf P t = none) : isArr P t = false := by unfold isArr; rw [h]
theorem arr_or {t : TypeId} {fs : List TypeId} (h : tk P t = .struct fs) : isArr P t = false ∨ ∃ n e, arrOf P t = some (n, e) := by
  cases ha : arrOf P t with
  | none => exact .inl (notArr' ha)
  | some x => exact .inr ⟨x.1, x.2, rfl⟩
theorem elemOk_info {e : TypeId} (h : elemOk P e = true) : ∃ i z, P.info? e = some i ∧ i.zero = some z ∧ z.cells.size = sizeOf P e ∧ 0 < sizeOf P e ∧ 0 < i.bytes ∧ i.size = sizeOf P e := by
  unfold elemOk at h
  cases hi : P.info? e with
  | none => rw [hi] at h; simp at h
  | some i =>
    rw [hi] at h
    simp only [Bool.and_eq_true] at h
    cases hz : i.zero with
    | none => rw [hz] at h; simp at h
    | some z =>
      rw [hz] at h
      have hs : sizeOf P e = i.size := by simp [sizeOf, hi]
      refine ⟨i, z, rfl, hz, ?_, ?_, ?_, hs.symm⟩
      · rw [hs]; simpa [Nat.beq_eq] using h.2
      · rw [hs]; simpa [Nat.blt_eq] using h.1.1
      · simpa [Nat.blt_eq] using h.1.2
theorem run_equal_bool {t : TypeId} (h : P.underlying t = some .bool) (i j : Bool) (w : World) : (Op.equal t (.bool i) (.bool j)).run P w = .ok (i == j) w := by
  have : ∀ d, (Op.equalIn (d + 1) t (.bool i) (.bool j)).run P w = .ok (i == j) w := fun d => by
    rw [Op.equalIn]; simp [run_underlying h]
  exact this 9999
theorem ok_binOp (hm : At P C M) {op : BinOp} {t ty : TypeId} {y z : Operand} (ho : o.op = .binOp op t y z ty) {sy sz : SV} (hy : Slot P M sy (a.eval y)) (hz : Slot P M sz (a.eval z)) (h : binK P t op sy sz (fun v => some (⟨.sc v, [], [], []⟩ : Eff)) = some e) : OpOk P C M o a e := by
  unfold binK at h
  split at h
  · rename_i k i k' j
    have hy' := hy.sc_inv.1; have hz' := hz.sc_inv.1
    split at h
    · split at h
      · rename_i hj
        injection h with h; subst h
        refine opOk_val ?_ (hm.pure (slot_sc rfl))
        have : (eqGuard .shl t y z (.int k i) (.int k' j)).run P M.w = .ok () M.w := by simp [eqGuard]
        simp [execOp, ho, hy', hz', this, Go.binOp, Op.shift, shlI, Int.not_lt.2 hj]
      · cases h
    · split at h
      · rename_i hj
        injection h with h; subst h
        refine opOk_val ?_ (hm.pure (slot_sc rfl))
        have : (eqGuard .shr t y z (.int k i) (.int k' j)).run P M.w = .ok () M.w := by simp [eqGuard]
        simp [execOp, ho, hy', hz', this, Go.binOp, Op.shift, shrI, Int.not_lt.2 hj]
      · cases h
    split at h
    · rename_i hk; subst hk
      obtain ⟨v, rfl, h1, h2⟩ := intOp_spec (P := P) (t := t) h M.w
      refine opOk_val ?_ (hm.pure (slot_sc h1))
      have hy' := hy.sc_inv.1; have hz' := hz.sc_inv.1
      have : (eqGuard op t y z (.int k i) (.int k j)).run P M.w = .ok () M.w := by cases op <;> simp [eqGuard]
      simp [execOp, ho, hy', hz', this, h2]
    · cases h
  · rename_i i j
    obtain ⟨v, rfl, h1, h2⟩ := strOp_spec (P := P) (t := t) h M.w
    refine opOk_val ?_ (hm.pure (slot_sc h1))
    have hy' := hy.sc_inv.1; have hz' := hz.sc_inv.1
    have : (eqGuard op t y z (.string i) (.string j)).run P M.w = .ok () M.w := by cases op <;> simp [eqGuard]
    simp [execOp, ho, hy', hz', this, h2]
  · rename_i i j
    have hy' := hy.sc_inv.1; have hz' := hz.sc_inv.1
    split at h
    · rename_i _ _ ht
      injection h with h; subst h
      refine opOk_val ?_ (hm.pure (slot_sc rfl))
      have hu := run_underlying (tk_bool ht) M.w
      have he := run_equal_bool (tk_bool ht) i j M.w
      have hg : (eqGuard .eql t y z (.bool i) (.bool j)).run P M.w = .ok () M.w := by simp [eqGuard]
      have hb : (Go.binOp .eql t (.bool i) (.bool j)).run P M.w = .ok (.bool (i == j)) M.w := by simp only [Go.binOp]; simp [he]
      simp [execOp, ho, hy', hz', hg, hb]
    · rename_i _ _ ht
      injection h with h; subst h
      refine opOk_val ?_ (hm.pure (slot_sc rfl))
      have hu := run_underlying (tk_bool ht) M.w
      have he := run_equal_bool (tk_bool ht) i j M.w
      have hg : (eqGuard .neq t y z (.bool i) (.bool j)).run P M.w = .ok () M.w := by simp [eqGuard]
      have hb : (Go.binOp .neq t (.bool i) (.bool j)).run P M.w = .ok (.bool (i != j)) M.w := by simp only [Go.binOp]; simp [he, bne]
      simp [execOp, ho, hy', hz', hg, hb]
    · cases h
  · cases h
theorem ok_unOp (hm : At P C M) {op : UnOp} {t : TypeId} {y : Operand} (ho : o.op = .unOp op t y) {sy : SV} (hy : Slot P M sy (a.eval y)) (h : unK op sy (fun v => some (⟨.sc v, [], [], []⟩ : Eff)) = some e) : OpOk P C M o a e := by
  unfold unK at h
  split at h
  · injection h with h; subst h
    have hy' := hy.sc_inv.1
    exact opOk_val (by simp [execOp, ho, hy', Op.unary]) (hm.pure (slot_sc rfl))
  · injection h with h; subst h
    have hy' := hy.sc_inv.1
    exact opOk_val (by simp [execOp, ho, hy', Op.unary, Op.intArith]) (hm.pure (slot_sc rfl))
  · injection h with h; subst h
    have hy' := hy.sc_inv.1
    exact opOk_val (by simp [execOp, ho, hy', Op.unary, Op.intBits, bXor]) (hm.pure (slot_sc rfl))
  · cases h
end
end Go.Proofs.YtfbkfhdlingedaaAm

/-! Operations that read: indices, fields, loads, lengths, slices. -/
namespace Go.Proofs.YtfbkfhdlingedaaAm
open Go RowKit
section
variable {P : Program} {C : Cx} {M : Mm} {x : SV} {v : Value} {o : Oper} {a : Act} {e : Eff} {n : Nat} {t t' u : TypeId} {pv : PV} {cs : List Value} {ok : Nat → Prop} {w : World} {F : List Nat}
variable [Glb P]
theorem get!_eq (s : ByteArray) (i : Nat) (h : i < s.size) : s[i]? = some (s.get! i) := by
  simp [getElem?_pos, h, ByteArray.get!, getElem!_def]
  rfl
theorem ok_indexS (hm : At P C M) {y z : Operand} (ho : o.op = .index t y z) {sy sz : SV} (hy : Slot P M sy (a.eval y)) (hz : Slot P M sz (a.eval z)) (h : eIndexS P some t sy sz = some e) : OpOk P C M o a e := by
  unfold eIndexS at h
  split at h
  · rename_i s k j
    split at h
    · rename_i ht
      split at h
      · rename_i h0
        split at h
        · rename_i h1
          injection h with h; subst h
          have hy' := hy.sc_inv.1; have hz' := hz.sc_inv.1
          refine opOk_val ?_ (hm.pure (slot_sc rfl))
          have hlt : j.toNat < s.size := by omega
          have hu := run_underlying (tk_str ht) M.w
          have hi : (Instr.index t (.string s) (.int k j)).run P M.w = .ok (.int .u8 (s.get! j.toNat).toNat) M.w := by
            simp [Instr.index, asIntOf, hu, h0, get!_eq s _ hlt]
          simp [execOp, ho, hy', hz', hi]
        · cases h
      · cases h
    · cases h
  · cases h
theorem run_sizeOf' {e : TypeId} {i : TypeInfo} (h : P.info? e = some i) (w : World) : (Go.sizeOf e).run P w = .ok i.size w := by simp [Go.sizeOf, typeInfo, h]
theorem ArrC.get {k : IntKind} (h : ArrC P t k pv cs) {i : Nat} {n : Nat} {e : TypeId} (ha : arrOf P t = some (n, e)) (hi : i < n) : cs[i]? = some (.int k (pv.fld i).toInt) ∧ tk P e = .int k := by
  obtain ⟨n', e', ps, h1, h2, h3, rfl, h5, h6, rfl⟩ := h
  have := (arrOf_some ha).symm.trans h1
  injection this with this; injection this with q1 q2; subst q1 q2
  have hlt : i < ps.length := by omega
  obtain ⟨x, hx⟩ := h6 ps[i] (List.getElem_mem hlt)
  refine ⟨?_, h3⟩
  have hg : ps[i]? = some ps[i] := by simp [hlt]
  simp only [List.getElem?_map, hg, Option.map_some, PV.fld, PV.parts, List.getD_eq_getElem?_getD, Option.getD_some, hx]
  rfl
theorem ok_index (hm : At P C M) {y z : Operand} (ho : o.op = .index t y z) {sy sz : SV} (hy : Slot P M sy (a.eval y)) (hz : Slot P M sz (a.eval z)) (h : eIndex P some t sy sz = some e) : OpOk P C M o a e := by
  unfold eIndex at h
  split at h
  · rename_i u kd pv
    unfold eIndexV at h
    split at h
    case h_2 => cases h
    rename_i k j n el hao
    cases hal : (alike P t u && isArr P u) <;> simp only [hal, cond_true, cond_false] at h
    · cases h
    simp only [Bool.and_eq_true] at hal
    split at h
    case isFalse => cases h
    rename_i h0
    split at h
    case isFalse => cases h
    rename_i h1
    injection h with h; subst h
    have hz' := hz.sc_inv.1
    generalize hvv : a.eval y = vv at hy
    cases hy with
    | leaf _ _ hl => exact hl.elim
    | arr _ _ _ arr hc =>
      refine opOk_val ?_ (hm.pure (slot_sc rfl))
      have hu : tk P t = tk P u := alike_tk hal.1
      have hall := hc
      obtain ⟨n', e', ps, b1, b2, b3, b4, b5, b6, b7⟩ := hc
      have htk := hu.trans b2
      obtain ⟨c1, c2, c3, k', c4, c5⟩ := tk_arr hao htk
      have hnn : List.replicate n' e' = List.replicate n el := c1
      have hlen : n' = n := by simpa using congrArg List.length hnn
      have hee : e' = el := by
        subst hlen
        have h9 := congrArg (fun l => l[0]?) hnn
        have hpos : 0 < n' := by omega
        simpa [List.getElem?_replicate, hpos] using h9
      subst hlen hee
      have hg := ArrC.get hall (i := j.toNat) (by unfold arrOf; rw [b1]) (by omega)
      have hpu := run_underlying (arrOf_some hao) M.w
      have hagg : (isAgg e').run P M.w = .ok false M.w := by simp [isAgg, run_underlying c4]
      have hsz : ∃ i, P.info? e' = some i ∧ i.size = 1 := by
        unfold sizeOf at c3
        cases hi : P.info? e' with
        | none => rw [hi] at c3; simp at c3
        | some i => rw [hi] at c3; exact ⟨i, rfl, c3⟩
      obtain ⟨i, hi1, hi2⟩ := hsz
      have hg1 : arr[j.toNat]? = some (.int kd (pv.fld j.toNat).toInt) := by rw [← Array.getElem?_toList]; exact hg.1
      have hix : (Instr.index t (.agg arr) (.int k j)).run P M.w = .ok (.int kd (pv.fld j.toNat).toInt) M.w := by
        simp [Instr.index, asIntOf, hpu, h0, h1, run_sizeOf' hi1, hi2, part, hagg, hg1]
      simp [execOp, ho, hvv, hz', hix]
  · exact ok_indexS hm ho hy hz h
theorem Flds.get {R : TypeId → PV → List Value → Prop} (hR : ∀ t p c, R t p c → c.length = sizeOf P t) : ∀ {ts : List TypeId} {ps : List PV} {cs : List Value} {i : Nat} {f : TypeId}, Flds R ts ps cs → ts[i]? = some f →
    ∃ p A c B, ps[i]? = some p ∧ cs = A ++ c ++ B ∧ A.length = offOf P ts i ∧ R f p c
  | [], _, _, i, f, h, hi => by simp at hi
  | _ :: _, [], _, _, _, h, _ => h.elim
  | t :: ts, p :: ps, cs, 0, f, ⟨c, cs', h1, h2, h3⟩, hi => by
    simp at hi; subst hi
    exact ⟨p, [], c, cs', rfl, by simpa using h1, rfl, h2⟩
  | t :: ts, p :: ps, cs, i + 1, f, ⟨c, cs', h1, h2, h3⟩, hi => by
    obtain ⟨p1, A, c1, B, a1, a2, a3, a4⟩ := Flds.get hR h3 (by simpa using hi)
    refine ⟨p1, c ++ A, c1, B, by simpa using a1, by rw [h1, a2]; simp, ?_, a4⟩
    simp [offOf, sumSz, hR _ _ _ h2]; simpa [offOf, sumSz] using a3
theorem PlcH.idx {A : Option Addr} {e : TypeId} (h1 : tk P t = .slice e) {ad : Addr} {len cap j : Nat} (hj : j < len) : PlcH P w t (.slice (some ad) len cap) [.idx j] e (ad.add (j * sizeOf P e)) :=
  ⟨e, ad, len, cap, h1, rfl, hj, rfl, rfl⟩
theorem Plc.trans {t1 t2 t3 : TypeId} : ∀ {p q : List Stp} {t1 : TypeId} {a1 a2 a3 : Addr}, Plc P w t1 a1 p t2 a2 → Plc P w t2 a2 q t3 a3 → Plc P w t1 a1 (p ++ q) t3 a3
  | [], q, t1, a1, a2, a3, ⟨h1, h2⟩, h => by subst h1 h2; exact h
  | .fld i :: r, q, t1, a1, a2, a3, ⟨fs, f, b1, b2, b3⟩, h => ⟨fs, f, b1, b2, Plc.trans (t1 := t1) b3 h⟩
  | .idx j :: r, q, t1, a1, a2, a3, ⟨e, A, len, cap, b1, b2, b3, b4⟩, h => ⟨e, A, len, cap, b1, b2, b3, Plc.trans (t1 := t1) b4 h⟩
theorem PlcH.trans {t2 t3 : TypeId} {p q : List Stp} {a2 a3 : Addr} (h : PlcH P w t v p t2 a2) (h' : Plc P w t2 a2 q t3 a3) : PlcH P w t v (p ++ q) t3 a3 := by
  cases p with
  | nil => exact h.elim
  | cons s r => cases s with
    | fld i => exact h.elim
    | idx j =>
      obtain ⟨e, A, len, cap, b1, b2, b3, b4⟩ := h
      exact ⟨e, A, len, cap, b1, b2, b3, Plc.trans (t1 := t) b4 h'⟩
theorem PlcF.trans {t2 t3 : TypeId} : ∀ {p q : List Stp} {t1 : TypeId} {o1 o2 o3 : Nat}, PlcF P t1 o1 p t2 o2 → PlcF P t2 o2 q t3 o3 → PlcF P t1 o1 (p ++ q) t3 o3
  | [], q, t1, o1, o2, o3, ⟨h1, h2⟩, h => by subst h1 h2; exact h
  | .fld i :: r, q, t1, o1, o2, o3, ⟨fs, f, b1, b2, b3⟩, h => ⟨fs, f, b1, b2, PlcF.trans b3 h⟩
  | .idx j :: r, q, _, _, _, _, h, _ => h.elim
/-- A slice value that a row of one's own holds (or is): an element's place. -/
theorem RefAt.elem {p : List Stp} {A : Option Addr} {len cap j : Nat} {e : TypeId} (hu : tk P (tyAt P u p) = .slice e) (h : RefAt P w u v p (.slice A len cap)) (hA : ∃ ad, A = some ad) (hj : j < len) :
    ∃ ad, A = some ad ∧ PlcH P w u v (p ++ [.idx j]) e (ad.add (j * sizeOf P e)) := by
  obtain ⟨ad, rfl⟩ := hA
  refine ⟨ad, rfl, ?_⟩
  rcases h with ⟨rfl, rfl⟩ | ⟨b, t', e', b1, b2, b3⟩
  · exact ⟨e, ad, len, cap, hu, rfl, hj, rfl, rfl⟩
  · have : t' = tyAt P u p := b1.ty
    subst this
    exact b1.trans ⟨e, ad, len, cap, hu, b3, hj, rfl, rfl⟩
/-- What a reference's slice value is. -/
theorem RefAt.val {p : List Stp} {e : TypeId} (how : Ow P w n u pv [v] F) (hu : tk P (tyAt P u p) = .slice e) {x : Value} (h : RefAt P w u v p x) : ∃ m xs ps F', Ow P w (m + 1) (tyAt P u p) (pv.at p) [x] F' ∧ (∀ k ∈ F', k ∈ F) ∧ pv.at p = .list ps ∧ ownsR w e (sizeOf P e) x ps.length xs := by
  have key : ∀ {m : Nat} {t : TypeId} {q : PV} {F' : List Nat}, tk P t = .slice e → Ow P w m t q [x] F' → ∃ m' xs ps, m = m' + 1 ∧ q = .list ps ∧ ownsR w e (sizeOf P e) x ps.length xs := by
    intro m t q F' ht h
    cases m with
    | zero => exact h.elim
    | succ m =>
      unfold Ow at h
      simp only [ht] at h
      obtain ⟨v', xs, ps, F1, h1, h2, h3, _⟩ := h
      simp at h1; subst h1
      exact ⟨m, xs, ps, rfl, h2, h3⟩
  rcases h with ⟨rfl, rfl⟩ | ⟨b, t', e', b1, b2, b3⟩
  · obtain ⟨m', xs, ps, h1, h2, h3⟩ := key hu how
    subst h1
    exact ⟨m', xs, ps, F, how, fun _ h => h, h2, h3⟩
  · have : t' = tyAt P u p := b1.ty
    subst this
    obtain ⟨m, cs', F', c1, c2, c3, _⟩ := how.getH b1
    have hl := c1.len
    rw [tk_size (by rw [hu]; simp), hu] at hl
    obtain ⟨y, rfl⟩ : ∃ y, cs' = [y] := by
      cases cs' with
      | nil => simp [TK.sz] at hl
      | cons y r => cases r with
        | nil => exact ⟨y, rfl⟩
        | cons => simp [TK.sz] at hl
    have := c2 0 y rfl
    rw [add_zero, b3] at this
    injection this with this; subst this
    obtain ⟨m', xs, ps, h1, h2, h3⟩ := key hu c1
    subst h1
    exact ⟨m', xs, ps, F', c1, c3, h2, h3⟩
theorem Leaf.ref_row {id : Nat} {p : List Stp} (h : Leaf P M (.ref id p) v) (ho : M.oh id = .row u pv) : RefAt P M.w u (M.G.hnd id) p v := by simp only [Leaf, ho] at h; exact h
theorem Leaf.ptr_row {id : Nat} {p : List Stp} (h : Leaf P M (.ptr id p) v) (ho : M.oh id = .row u pv) : ∃ a t', v = .pointer (some a) ∧ PlcH P M.w u (M.G.hnd id) p t' a := by simp only [Leaf, ho] at h; exact h
theorem Leaf.ptr_box {id : Nat} {p : List Stp} {sv : SV} (h : Leaf P M (.ptr id p) v) (ho : M.oh id = .box u sv) : ∃ g o t', M.G.hnd id = .pointer (some ⟨g, 0, none⟩) ∧ v = .pointer (some ⟨g, o, none⟩) ∧ PlcF P u 0 p t' o := by simp only [Leaf, ho] at h; exact h
theorem run_indexAt {e : TypeId} (ht : tk P t = .slice e) {ad : Addr} {len cap : Nat} {k : IntKind} {j : Int} (h0 : 0 ≤ j) (h1 : j < len) (w : World) : (Instr.indexAt t (.slice (some ad) len cap) (.int k j)).run P w = .ok (.pointer (some (ad.add (j.toNat * sizeOf P e)))) w := by
  obtain ⟨hu, hel⟩ := tk_slice ht
  obtain ⟨i, z, hi, _, _, _, _, hs⟩ := elemOk_info hel
  simp [Instr.indexAt, asIntOf, run_underlying hu, h0, h1, run_sizeOf' hi, hs]
theorem slot_ptr_row {id : Nat} {p : List Stp} {ad : Addr} (ho : M.oh id = .row u pv) (h : PlcH P M.w u (M.G.hnd id) p t' ad) : Slot P M (.ptr id p) (.pointer (some ad)) :=
  .leaf _ _ (by simp only [Leaf, ho]; exact ⟨ad, t', rfl, h⟩) rfl
theorem ShlAt.rd {ps : List PV} (h : ShlAt P ok w t ps v F) : ∃ n, Rd P (fun k => ok k ∨ k ∈ F) w (n + 1) t (.list ps) [v] := by
  obtain ⟨e, n, xs, h1, h2, h3, h4⟩ := h
  refine ⟨n, ?_⟩
  unfold Rd
  simp only [h1]
  obtain ⟨A, cap, hv, hcap⟩ := ownsRow_slice h2
  refine ⟨A, cap, ps, by rw [hv], rfl, hcap, fun h0 => ?_⟩
  obtain ⟨_, _, g, hA, hb, hcell⟩ := ownsRow_cell h2 hv h0
  subst hA
  refine ⟨_, rfl, .inr (by rw [h3, hb]; simp), fun j p hj => ?_⟩
  obtain ⟨c, f, c1, c2, c3, c4⟩ := h4.row j p hj
  exact ⟨c, c1, fun q u hq => hcell _ _ (c2 q u hq), c4.1.mono (fun k hk => .inl hk)⟩
theorem ShlAt.elem {ps : List PV} {e : TypeId} {j : Nat} (h : ShlAt P ok w t ps v F) (he : tk P t = .slice e) (hj : j < ps.length) : ∃ g cap n c, v = .slice (some ⟨g, 0, none⟩) ps.length cap ∧ Loc w ((⟨g, 0, none⟩ : Addr).add (j * sizeOf P e)) c ∧ Rd P ok w n e ((PV.list ps).elem j) c := by
  obtain ⟨e', n, xs, h1, h2, h3, h4⟩ := h
  rw [he] at h1; injection h1 with h1; subst h1
  obtain ⟨A, cap, hv, hcap⟩ := ownsRow_slice h2
  obtain ⟨_, _, g, hA, hb, hcell⟩ := ownsRow_cell h2 hv (by omega)
  subst hA
  obtain ⟨c, f, c1, c2, c3, c4⟩ := h4.row j ps[j] (by simp [hj])
  refine ⟨g, cap, n, c, hv, fun q u hq => ?_, ?_⟩
  · rw [add_add]; exact hcell _ _ (c2 q u hq)
  · have : (PV.list ps).elem j = ps[j] := by simp [PV.elem, PV.items, List.getD_eq_getElem?_getD, hj]
    rw [this]; exact c4.1
theorem ok_indexAddrS (hm : At P C M) {h' : Nat → Own} {y z : Operand} (ho : o.op = .indexAddr t y z) {sy sz : SV} (hy : Slot P M sy (a.eval y)) (hz : Slot P M sz (a.eval z)) (hh : ∀ id ∈ idsOf sy, h' id = M.oh id) (h : eIndexAddrS P h' some t sy sz = some e) : OpOk P C M o a e := by
  unfold eIndexAddrS at h
  split at h
  case h_2 => cases h
  rename_i el hte
  split at h
  · rename_i id p k j
    split at h
    · rename_i u pv ho1
      have ho1 : M.oh id = .row u pv := by rw [← hh id (by simp [idsOf])]; exact ho1
      cases hal : alike P t (tyAt P u p) <;> simp only [hal, cond_true, cond_false] at h
      · cases h
      · split at h
        · rename_i h0
          split at h
          · rename_i h1
            injection h with h; subst h
            have hz' := hz.sc_inv.1
            obtain ⟨hl, _⟩ := hy.leaf_inv (by simp) (by simp) (by simp) (by simp) (by simp)
            have hr := hl.ref_row ho1
            obtain ⟨n, how⟩ := hm.mem.row id u pv ho1
            generalize hvv : a.eval y = vv at hr
            have hsl : tk P (tyAt P u p) = .slice el := by rw [← alike_tk hal]; exact hte
            obtain ⟨m, xs, ps, F', c1, c2, c3, c4⟩ := hr.val how hsl
            rw [c3] at h1
            simp only [PV.items] at h1
            obtain ⟨A, cap, hvs, hcap⟩ := ownsRow_slice c4
            obtain ⟨_, _, g, hA, _, _⟩ := ownsRow_cell c4 hvs (by omega)
            subst hA
            rw [hvs] at hr
            obtain ⟨ad, he, hpl⟩ := hr.elem hsl ⟨_, rfl⟩ (show j.toNat < ps.length by omega)
            injection he with he; subst he
            refine opOk_val ?_ (hm.pure (slot_ptr_row ho1 hpl))
            have hrun := run_indexAt (t := t) (by rw [alike_tk hal]; exact hsl) (ad := ⟨g, 0, none⟩) (len := ps.length) (cap := cap) (k := k) h0 (by omega) M.w
            simp [execOp, ho, hvv, hvs, hz', hrun]
          · cases h
        · cases h
    · rename_i u pv q0 ho1
      have ho1 : M.oh id = .hole u pv q0 := by rw [← hh id (by simp [idsOf])]; exact ho1
      split at h
      case h_2 => cases h
      cases hal : alike P t u <;> simp only [hal, cond_true, cond_false] at h
      · cases h
      split at h
      case isFalse => cases h
      rename_i h0
      split at h
      case isFalse => cases h
      rename_i h1
      injection h with h; subst h
      have hz' := hz.sc_inv.1
      obtain ⟨hl, _⟩ := hy.leaf_inv (by simp) (by simp) (by simp) (by simp) (by simp)
      simp only [Leaf, ho1] at hl
      have hsl : tk P u = .slice el := by rw [← alike_tk hal]; exact hte
      obtain ⟨_, _, _, _, _, _, _, _, _, _, ⟨ad, cap, ps, rfl, hv, _⟩, _⟩ := hm.mem.hol id u pv q0 ho1
      have hve := (hl trivial).trans hv
      simp only [PV.items] at h1
      have hrun := run_indexAt (t := t) hte (ad := ad) (len := ps.length) (cap := cap) (k := k) h0 (by omega) M.w
      refine opOk_val (v := .pointer (some (ad.add (j.toNat * sizeOf P el)))) ?_ (hm.pure (.leaf _ _ ?_ rfl))
      · simp [execOp, ho, hve, hz', hrun]
      · simp only [Leaf, ho1]
        exact fun _ => ⟨_, el, rfl, el, _, _, _, hsl, hv, by omega, rfl, rfl⟩
    · rename_i u qs ho1
      have ho1 : M.oh id = .shl u qs := by rw [← hh id (by simp [idsOf])]; exact ho1
      split at h
      case h_2 => cases h
      cases hal : alike P t u <;> simp only [hal, cond_true, cond_false] at h
      · cases h
      split at h
      case isFalse => cases h
      rename_i h0
      split at h
      case isFalse => cases h
      rename_i h1
      injection h with h; subst h
      have hz' := hz.sc_inv.1
      obtain ⟨hl, _⟩ := hy.leaf_inv (by simp) (by simp) (by simp) (by simp) (by simp)
      simp only [Leaf, ho1] at hl
      have hsl : tk P u = .slice el := by rw [← alike_tk hal]; exact hte
      obtain ⟨g, cap, _, _, hv, _, _⟩ := (hm.mem.shl id u qs ho1).elem hsl (j := j.toNat) (by omega)
      have hve := hl.2.trans hv
      have hrun := run_indexAt (t := t) hte (ad := ⟨g, 0, none⟩) (len := qs.length) (cap := cap) (k := k) h0 (by omega) M.w
      refine opOk_val (v := .pointer (some ((⟨g, 0, none⟩ : Addr).add (j.toNat * sizeOf P el)))) ?_ (hm.pure (.leaf _ _ ?_ rfl))
      · simp [execOp, ho, hve, hz', hrun]
      · simp only [Leaf, ho1]
        exact ⟨rfl, _, el, rfl, el, _, _, _, hsl, hv, by omega, rfl, rfl⟩
    · cases h
  · rename_i id p lo hi k j
    split at h
    · rename_i u pv ho1
      have ho1 : M.oh id = .row u pv := by rw [← hh id (by simp [idsOf])]; exact ho1
      cases hal : alike P t (tyAt P u p) <;> simp only [hal, cond_true, cond_false] at h
      · cases h
      · split at h
        · rename_i h0
          split at h
          · rename_i h1
            injection h with h; subst h
            have hz' := hz.sc_inv.1
            obtain ⟨hl, _⟩ := hy.leaf_inv (by simp) (by simp) (by simp) (by simp) (by simp)
            simp only [Leaf, ho1] at hl
            obtain ⟨el', A, len, cap, A', cap', hsl, hr, g1, g2, g3, g4, g5, _⟩ := hl
            have : el = el' := by rw [← alike_tk hal, hte] at hsl; injection hsl with hsl
            subst this
            obtain ⟨ad, rfl, rfl⟩ := g5 (by omega)
            obtain ⟨ad', he, hpl⟩ := hr.elem hsl ⟨_, rfl⟩ (show lo + j.toNat < len by omega)
            injection he with he; subst he
            rw [Nat.add_mul, ← add_add] at hpl
            refine opOk_val ?_ (hm.pure (slot_ptr_row ho1 hpl))
            have hrun := run_indexAt (t := t) (by rw [alike_tk hal]; exact hsl) (ad := ad.add (lo * sizeOf P el)) (len := hi - lo) (cap := cap') (k := k) h0 (by omega) M.w
            simp [execOp, ho, g3, hz', hrun]
          · cases h
        · cases h
    · cases h
  · rename_i u pv k j
    cases hal : alike P t u <;> simp only [hal, cond_true, cond_false] at h
    · cases h
    · split at h
      · rename_i h0
        split at h
        · rename_i h1
          injection h with h; subst h
          have hz' := hz.sc_inv.1
          obtain ⟨hl, _⟩ := hy.leaf_inv (by simp) (by simp) (by simp) (by simp) (by simp)
          obtain ⟨n, el', hsl, hrd⟩ := hl
          have : el = el' := by rw [← alike_tk hal, hte] at hsl; injection hsl with hsl
          subst this
          cases n with
          | zero => exact hrd.elim
          | succ n =>
            unfold Rd at hrd
            simp only [hsl] at hrd
            obtain ⟨A, cap, ps, c1, rfl, c3, c4⟩ := hrd
            simp only [PV.items] at h1
            obtain ⟨ad, rfl, hok, hrow⟩ := c4 (by omega)
            obtain ⟨q, hq⟩ : ∃ q, ps[j.toNat]? = some q := ⟨ps[j.toNat]'(by omega), by simp⟩
            obtain ⟨c, d1, d2, d3⟩ := hrow _ _ hq
            have hpos := elem_pos hsl
            have hlt : ad.block < M.w.heap.size := by
              obtain ⟨u, hu⟩ : ∃ u, c[0]? = some u := ⟨c[0]'(by omega), by simp⟩
              have := cell_lt (d2 0 u hu)
              rwa [add_block] at this
            refine opOk_val (v := .pointer (some (ad.add (j.toNat * sizeOf P el)))) ?_ (hm.pure (.leaf _ _ ⟨_, n, c, rfl, ?_, ?_, fun q u hq => ?_, ?_⟩ rfl))
            · have hrun := run_indexAt (t := t) (by rw [alike_tk hal]; exact hsl) (ad := ad) (len := ps.length) (cap := cap) (k := k) h0 (by omega) M.w
              simp at c1
              simp [execOp, ho, c1, hz', hrun]
            · rw [add_block]; exact hok
            · rw [add_block]; exact hlt
            · rw [add_add]; exact d2 q u hq
            · simpa [PV.elem, PV.items, List.getD_eq_getElem?_getD, hq] using d3
        · cases h
      · cases h
  · cases h
end
end Go.Proofs.YtfbkfhdlingedaaAm

