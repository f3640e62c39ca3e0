/- A part of the proof of the claim (the pure semantics PS and the contracts of the functions over it). -/
import Derived.WalkKit
import Derived.Below
import Derived.Lib.ConvBytes
import Derived.Laws.Tables
import Derived.Laws.RangeAny
import Derived.Deep.AppendSrc
set_option linter.all false
section
namespace Go.PS
inductive DV where
  | int (k:IntKind) (n:Int)
  | bool (b:Bool)
  | str (s:List UInt8)
  | slc (sz:Nat) (vs:List DV)
  | nils (sz:Nat)
  | agg (vs:List DV)
  | nilp
  | nilf
  | nili
  | iface (t:TypeId) (v:DV)
  | ifc (t:TypeId)
  deriving Inhabited
inductive PV where
  | d (v:DV)
  | own (sz:Nat) (vs:List DV)
  | ptr (id off:Nat)
  | ro (vs:List DV)
  | func (f:FuncId) (captured:List PV)
  | tup (vs:List PV)
  | undef
  | skp
  deriving Inhabited
inductive PObj where
  | cells (vs:List PV)
  | iter (s:List UInt8) (pos:Nat)
  deriving Inhabited
structure St where
  slots:List PV
  heap:List PObj
inductive Out where
  | ret (v:PV)
  | pan (v:DV)
inductive Ty where
  | int (k:IntKind)
  | bool
  | str
  | slice (elem:TypeId)
  | struct (fields:List (Nat × TypeId))
  | array (len:Nat) (elem:TypeId)
  | ptr (elem:TypeId)
  | iface
  | func
  | other
  deriving Inhabited
structure TyI where
  ty:Ty
  size:Nat
  bytes:Nat
  zero:List DV
  deriving Inhabited
inductive Tr (α:Type) where
  | ok (a:α)
  | cnd (b:Bool) (x y:Tr α)
  | chk (b:Bool) (x:Tr α)
  | no
inductive EK where
  | pure (s:List PV → Tr PV)
  | eff (s:List PV → List PObj → Tr (Out × List PObj))
  | fr (s:List PV → List PObj → Tr (Out × List PObj))
inductive Ex where
  | normal
  | exit (id:Nat)
  | ret
  | pan (v:DV)
structure Ctx where
  tys:List TyI
  eqs:List Nat
  env:FuncId → Option EK
  fuel:Nat
  /-- does the right to append follow a copy that is assigned -/
  lend:Bool
abbrev Lps:=Nat → Option (List Nat × List Nat × (St → Tr (Ex × St)))
def noL:Lps:=fun _ => none
def gt {α:Type} (d:α):List α → Nat → α
  | [],_ => d
  | v :: _,0 => v
  | _ :: l,n + 1 => gt d l n
def up {α:Type}:List α → Nat → α → List α
  | [],_,_ => []
  | _ :: l,0,x => x :: l
  | v :: l,n + 1,x => v :: up l n x
def memN (t:Nat):List Nat → Bool
  | [] => false
  | u :: l => Nat.beq u t || memN t l
def tk {α:Type}:List α → Nat → List α
  | _,0 => []
  | [],_ => []
  | v :: l,n + 1 => v :: tk l n
def dr {α:Type}:List α → Nat → List α
  | l,0 => l
  | [],_ => []
  | _ :: l,n + 1 => dr l n
def Ctx.ty (C:Ctx) (t:TypeId):TyI:=gt ⟨.other,0,0,[]⟩ C.tys t
def Ctx.esz (C:Ctx) (t:TypeId):Nat:=match (C.ty t).ty with | .slice e => (C.ty e).size | _ => 0
def DV.cells:DV → List DV
  | .agg vs => vs
  | v => [v]
def DV.scalar:DV → Bool
  | .agg _ => false
  | _ => true
def PV.cellOk:PV → Bool
  | .d v => v.scalar
  | .tup _ => false
  | .undef => false
  | .skp => false
  | _ => true
def PV.plain:PV → PV
  | .own sz vs => .d (.slc sz vs)
  | v => v
def PV.data:PV → Option DV
  | .d (.nils sz) => some (.slc sz [])
  | .d v => some v
  | .own sz vs => some (.slc sz vs)
  | _ => none
def datas:List PV → Option (List DV)
  | [] => some []
  | v :: l => match v.data with
    | some d => match datas l with
      | some ds => some (d :: ds)
      | none => none
    | none => none
def ofConst:Value → PV
  | .int k n => .d (.int k n)
  | .bool b => .d (.bool b)
  | .string s => bif Nat.ble s.data.toList.length 9223372036854775807 then .d (.str s.data.toList) else .undef
  | .slice none 0 0 => .own 0 []
  | .pointer none => .d .nilp
  | .nilFunc => .d .nilf
  | .nilIface => .d .nili
  | _ => .undef
def ofConstT (esz:Nat):Value → PV
  | .slice none 0 0 => .own esz []
  | v => ofConst v
def ev (st:St):Operand → PV
  | .tmp t => gt .undef st.slots t
  | .const v => ofConst v
  | .func f => .func f []
  | .global _ => .undef
def St.set (st:St) (t:Nat) (v:PV):St:=⟨up st.slots t v,st.heap⟩
def St.put (st:St) (dst:Option Tmp) (v:PV):St :=
  match dst with
  | some t => st.set t v
  | none => st
def isScalar:Ty → Bool
  | .struct _ | .array .. => false
  | _ => true
def ofCells (T:TyI) (cs:List DV):Option DV :=
  bif isScalar T.ty then (match cs with | v :: _ => some v | [] => none)
  else some (.agg (tk cs T.size))
def toCell:DV → PV
  | .nils sz => .own sz []
  | v => .d v
def toCells:List DV → List PV
  | [] => []
  | v :: l => toCell v :: toCells l
def dCells:List DV → List PV
  | [] => []
  | v :: l => .d v :: dCells l
def fill (place:Nat → Option (Nat × Nat)) (cells:List DV):List (Nat × DV) → Option (List DV)
  | [] => some cells
  | (i,v) :: rest => match place i with
    | none => none
    | some (off,size) => bif (Nat.beq v.cells.length size && Nat.ble (off + size) cells.length) then
        fill place (tk cells off ++ v.cells ++ dr cells (off + size)) rest else none
def fillS (es:List DV):List (Nat × DV) → List DV
  | [] => es
  | (i,v) :: rest => fillS (up es i v) rest
def partsFit (n len:Nat):List (Nat × DV) → Bool
  | [] => true
  | (i,v) :: l => Nat.beq v.cells.length n && Nat.ble (i + 1) len && partsFit n len l
def partsOf (st:St):List (Nat × Operand) → Option (List (Nat × DV))
  | [] => some []
  | (i,x) :: l => match (ev st x).data with
    | some v => match partsOf st l with
      | some r => some ((i,v) :: r)
      | none => none
    | none => none
def evs (st:St):List Operand → List PV
  | [] => []
  | x :: l => (ev st x).plain :: evs st l
def place (fs:List (Nat × TypeId)) (C:Ctx) (i:Nat):Option (Nat × Nat) :=
  match gt none (fs.map some) i with
  | some (off,t) => some (off,(C.ty t).size)
  | none => none
def zeroDV (T:TyI):DV:=bif isScalar T.ty then (match T.zero with | v :: _ => v | [] => .nili) else .agg T.zero
def rep {α:Type}:Nat → α → List α
  | 0,_ => []
  | n + 1,x => x :: rep n x
def eqCells:List DV → List DV → Option Bool
  | [],[] => some true
  | .int k a :: l,.int k' b :: r => bif k == k' then (match eqCells l r with | some t => some (decide (a = b) && t) | none => none) else none
  | .str a :: l,.str b :: r => match eqCells l r with | some t => some (decide (a = b) && t) | none => none
  | .bool a :: l,.bool b :: r => match eqCells l r with | some t => some ((a == b) && t) | none => none
  | _,_ => none
def strOp (op:BinOp) (a b:List UInt8):Option DV :=
  match op with
  | .eql => some (.bool (decide (a = b)))
  | .neq => some (.bool (!decide (a = b)))
  | .lss => some (.bool (Op.bytesLess a b))
  | .leq => some (.bool (Op.bytesLess a b || decide (a = b)))
  | .gtr => some (.bool (!(Op.bytesLess a b || decide (a = b))))
  | .geq => some (.bool (!Op.bytesLess a b))
  | _ => none
def kindsB:List DV → List DV → Bool
  | [],[] => true
  | .int k _ :: l,.int k' _ :: r => k == k' && kindsB l r
  | .str _ :: l,.str _ :: r => kindsB l r
  | .bool _ :: l,.bool _ :: r => kindsB l r
  | _,_ => false
def atI (l:List DV) (i j:Nat):Int:=match gt .nili (gt .nili l i).cells j with | .int _ n => n | _ => 0
def atS (l:List DV) (i j:Nat):List UInt8:=match gt .nili (gt .nili l i).cells j with | .str s => s | _ => []
def atB (l:List DV) (i j:Nat):Bool:=match gt .nili (gt .nili l i).cells j with | .bool b => b | _ => false
def atL (l:List DV) (i j:Nat):List DV:=match gt .nili (gt .nili l i).cells j with | .slc _ vs => vs | _ => []
def view (l:List DV) (i j:Nat):DV → DV
  | .int k _ => .int k (atI l i j)
  | .str _ => .str (atS l i j)
  | .bool _ => .bool (atB l i j)
  | .nils sz => .slc sz (atL l i j)
  | _ => .nili
def views:List DV → List DV → Nat → Nat → List DV
  | [],_,_,_ => []
  | z :: zs,l,i,j => view l i j z :: views zs l i (j + 1)
def fits1:DV → DV → Bool
  | .int k _,.int k' _ => k == k'
  | .str _,.str _ => true
  | .bool _,.bool _ => true
  | .nils sz,.slc sz' _ => Nat.beq sz sz'
  | .nils sz,.nils sz' => Nat.beq sz sz'
  | _,_ => false
def fits:List DV → List DV → Bool
  | [],[] => true
  | z :: zs,v :: vs => fits1 z v && fits zs vs
  | _,_ => false
section
variable {R:Type}
def cnd (b:Bool) (x y:Option R):Option R:=match b with | true => x | false => y
def chk (b:Bool) (x:Option R):Option R:=match b with | true => x | false => none
def Tr.run {α:Type}:Tr α → (α → Option R) → Option R
  | .ok a,k => k a
  | .cnd b x y,k => PS.cnd b (x.run k) (y.run k)
  | .chk b x,k => PS.chk b (x.run k)
  | .no,_ => none
def Tr.val {α:Type} (t:Tr α):Option α:=t.run some
theorem Tr.run_eq {α:Type} (t:Tr α) (k:α → Option R):t.run k = (match t.val with | some a => k a | none => none):=by
  induction t with
  | ok a => rfl
  | cnd b x y ihx ihy => cases b <;> simp only [Tr.run,Tr.val,PS.cnd] <;> assumption
  | chk b x ih => cases b <;> simp only [Tr.run,Tr.val,PS.chk]; assumption
  | no => rfl
theorem Tr.run_some {α:Type} {t:Tr α} {k:α → Option R} {r:R} (h:t.run k = some r):∃ a,t.val = some a ∧ k a = some r:=by
  rw [t.run_eq] at h
  split at h
  · exact ⟨_,‹_›,h⟩
  · simp at h
def binK (C:Ctx) (op:BinOp) (t:TypeId) (x y:DV) (k:DV → Option R):Option R :=
  match x,y with
  | .int ka a,.int kb b => match op with
    | .shl => chk (decide (0 ≤ b)) (k (.int ka (ka.wrap (a * 2 ^ (min b.toNat ka.bits)))))
    | .shr => chk (decide (0 ≤ b)) (k (.int ka (a.fdiv (2 ^ (min b.toNat ka.bits)))))
    | _ => bif ka == kb then (match op with
      | .add => k (.int ka (ka.wrap (a + b)))
      | .sub => k (.int ka (ka.wrap (a - b)))
      | .mul => k (.int ka (ka.wrap (a * b)))
      | .quo => chk (!decide (b = 0)) (k (.int ka (ka.wrap (a.tdiv b))))
      | .rem => chk (!decide (b = 0)) (k (.int ka (a.tmod b)))
      | .eql => k (.bool (decide (a = b)))
      | .neq => k (.bool (!decide (a = b)))
      | .lss => k (.bool (decide (a < b)))
      | .leq => k (.bool (decide (a ≤ b)))
      | .gtr => k (.bool (decide (a > b)))
      | .geq => k (.bool (decide (a ≥ b)))
      | .and => k (.int ka (ka.wrap (BitVec.ofInt ka.bits a &&& BitVec.ofInt ka.bits b).toNat))
      | .or => k (.int ka (ka.wrap (BitVec.ofInt ka.bits a ||| BitVec.ofInt ka.bits b).toNat))
      | .xor => k (.int ka (ka.wrap (BitVec.ofInt ka.bits a ^^^ BitVec.ofInt ka.bits b).toNat))
      | _ => none) else none
  | .str a,.str b => match op with
    | .add => chk (decide (a.length + b.length ≤ 9223372036854775807)) (k (.str (a ++ b)))
    | _ => match strOp op a b with | some v => k v | none => none
  | .bool a,.bool b => match (C.ty t).ty,op with
    | .bool,.eql => k (.bool (a == b))
    | .bool,.neq => k (.bool (!(a == b)))
    | _,_ => none
  | .agg a,.agg b => bif memN t C.eqs && kindsB (C.ty t).zero a then (match eqCells a b with
      | some r => (match op with | .eql => k (.bool r) | .neq => k (.bool (!r)) | _ => none)
      | none => none) else none
  | _,_ => none
def unK (op:UnOp) (x:DV) (k:DV → Option R):Option R :=
  match op,x with
  | .neg,.int kk n => k (.int kk (kk.wrap (0 - n)))
  | .not,.bool b => k (.bool (!b))
  | _,_ => none
def bytesDV (s:List UInt8):List DV:=s.map fun b => .int .u8 b.toNat
def allU8:List DV → Bool
  | [] => true
  | .int .u8 _ :: l => allU8 l
  | _ => false
def bytesOf:List DV → List UInt8
  | [] => []
  | .int _ n :: l => UInt8.ofNat n.toNat :: bytesOf l
  | _ :: l => bytesOf l
def convK (C:Ctx) (src dst:TypeId) (x:DV) (k:DV → Option R):Option R :=
  match (C.ty src).ty,(C.ty dst).ty,x with
  | .int _,.int kk,.int _ n => k (.int kk (kk.wrap n))
  | .str,.str,.str s => k (.str s)
  | .int _,.str,.int _ n => k (.str (Utf8.encode n).data.toList)
  | .str,.slice e,.str s => match (C.ty e).ty with
    | .int .u8 => k (.slc 1 (bytesDV s))
    | _ => none
  | .slice e,.str,.slc _ vs => match (C.ty e).ty with
    | .int .u8 => chk (allU8 vs) (k (.str (bytesOf vs)))
    | _ => none
  | _,_,_ => none
def boundK (st:St) (x:Option Operand) (d:Nat) (k:Int → Option R):Option R :=
  match x with
  | none => k d
  | some o => match ev st o with
    | .d (.int _ n) => k n
    | _ => none
def loadCells (T:TyI) (vs:List PV) (k:PV → Option R):Option R :=
  bif Nat.beq T.size 0 then none else bif isScalar T.ty then (match vs with | v :: _ => k v.plain | [] => none)
  else (match datas (tk vs T.size) with | some ds => (bif Nat.beq ds.length T.size then k (.d (.agg ds)) else none) | none => none)
def sliceK (C:Ctx) (t:TypeId) (st:St) (x:PV) (lo hi:Option Operand) (k:PV → Option R):Option R :=
  match (C.ty t).ty,x.data with
  | .str,some (.str s) => boundK st lo 0 fun l => boundK st hi s.length fun h =>
      chk (decide (0 ≤ l)) (chk (decide (l ≤ h)) (chk (decide (h ≤ s.length)) (k (.d (.str ((s.take h.toNat).drop l.toNat))))))
  | .slice e,some (.slc sz s) => boundK st lo 0 fun l => boundK st hi s.length fun h =>
      bif Nat.beq sz (C.ty e).size then chk (decide (0 ≤ l)) (chk (decide (l ≤ h)) (chk (decide (h ≤ s.length)) (k (.d (.slc sz ((s.take h.toNat).drop l.toNat)))))) else none
  | _,_ => none
def fieldOff (C:Ctx) (t:TypeId) (f:Nat):Option (Nat × TypeId) :=
  match (C.ty t).ty with
  | .struct fs => gt none (fs.map some) f
  | _ => none
def nth (z:List DV) (l:List DV) (i:Nat) (k:List DV → Option R):Option R :=
  chk (decide (i < l.length)) (chk (fits z (gt .nili l i).cells) (k (views z l i 0)))
def nthB (l:List UInt8) (i:Nat) (k:UInt8 → Option R):Option R :=
  chk (decide (i < l.length)) (k (l.getD i 0))
def bargs:List PV → List PV → List PV
  | .skp :: fs,as => fs ++ as
  | c,as => as ++ c
def notSkp:List PV → Bool
  | .skp :: _ => false
  | _ => true
def nilTest (op:BinOp) (t:Bool) (k:PV → Option R):Option R :=
  match op with
  | .eql => k (.d (.bool t))
  | .neq => k (.d (.bool (!t)))
  | _ => none
def isStr:Ty → Bool
  | .str => true
  | _ => false
def pureK (C:Ctx) (op:Op) (st:St) (k:PV → Option R):Option R :=
  match op with
  | .move x | .assign x => k (ev st x).plain
  | .pick c a b => match ev st c with
    | .d (.bool t) => cnd t (k (ev st a).plain) (k (ev st b).plain)
    | _ => none
  | .build t parts => bif (C.ty t).zero.isEmpty then none else match (C.ty t).ty with
    | .struct fs => match partsOf st parts.toList with
      | some ps => (match fill (place fs C) (C.ty t).zero ps with | some cs => k (.d (.agg cs)) | none => none)
      | none => none
    | .array n e => match partsOf st parts.toList with
      | some ps => (match fill (fun i => bif Nat.ble (i + 1) n then some (i * (C.ty e).size,(C.ty e).size) else none) (C.ty t).zero ps with | some cs => k (.d (.agg cs)) | none => none)
      | none => none
    | _ => none
  | .buildSlice t len parts => match (C.ty t).ty with
    | .slice e => match partsOf st parts.toList with
      | some ps => bif (C.ty e).zero.isEmpty then none else bif partsFit (C.ty e).size len ps then (bif Nat.ble (len * (C.ty e).size) 16777216 then k (.own (C.ty e).size (fillS (rep len (zeroDV (C.ty e))) ps)) else none) else none
      | none => none
    | _ => none
  | .nilCheck x => match ev st x with
    | .ptr id off => k (.ptr id off)
    | .ro vs => k (.ro vs)
    | .func f c => k (.func f c)
    | _ => none
  | .binOp op t x (.const .nilIface) _ => match (C.ty t).ty with
    | .iface => (match ev st x with
      | .d .nili => nilTest op true k
      | .d (.iface _ _) => nilTest op false k
      | .d (.ifc _) => nilTest op false k
      | _ => none)
    | _ => none
  | .binOp op t x (.const (.pointer none)) _ => match (C.ty t).ty with
    | .ptr _ => (match ev st x with
      | .d .nilp => nilTest op true k
      | .ptr _ _ => nilTest op false k
      | .ro _ => nilTest op false k
      | _ => none)
    | _ => none
  | .binOp op t x (.const (.slice none 0 0)) _ => match (C.ty t).ty with
    | .slice _ => (match (ev st x).data with
      | some (.slc _ vs) => chk (decide (0 < vs.length)) (nilTest op false k)
      | _ => none)
    | _ => none
  | .binOp op t x y _ => match (ev st x).data,(ev st y).data with
    | some a,some b => binK C op t a b fun v => k (.d v)
    | _,_ => none
  | .unOp op _ x => match ev st x with
    | .d a => unK op a fun v => k (.d v)
    | _ => none
  | .convert s d x => match (ev st x).data with
    | some a => convK C s d a fun v => k (.d v)
    | none => none
  | .makeInterface t x => match (C.ty t).ty with
    | .iface | .other => none
    | _ => (match (ev st x).data with
      | some a => k (.d (.iface t a))
      | none => none)
  | .makeFunc (.func f) first cap => bif Nat.beq first.size 0 then (bif notSkp (evs st cap.toList) then k (.func f (evs st cap.toList)) else none)
    else (bif Nat.beq cap.size 0 then k (.func f (.skp :: evs st first.toList)) else none)
  | .slice t x lo hi mx => match mx with
    | none => sliceK C t st (ev st x) lo hi k
    | some m => match hi with
      | some h => (match ev st m,ev st h,(ev st x).data with
        | .d (.int _ a),.d (.int _ b),some (.slc sz s) => chk (decide (a = b)) (sliceK C t st (.d (.slc sz s)) lo hi k)
        | _,_,_ => none)
      | none => none
  | .fieldAddr t x f => match fieldOff C t f with
    | some (off,ft) => bif Nat.beq (C.ty ft).size 0 then none else (match ev st x with
      | .ptr id o => k (.ptr id (o + off))
      | .ro vs => k (.ro (dr vs off))
      | _ => none)
    | none => none
  | .field t x f => match fieldOff C t f with
    | some (off,ft) => bif Nat.beq (C.ty ft).size 0 then none else (match ev st x with
      | .d (.agg vs) => bif Nat.ble (off + (C.ty ft).size) vs.length then (match ofCells (C.ty ft) (dr vs off) with | some v => k (.d v) | none => none) else none
      | _ => none)
    | none => none
  | .indexAddr t x i => match (C.ty t).ty with
    | .slice e => (match (ev st x).data,ev st i with
      | some (.slc sz vs),.d (.int _ n) => bif Nat.beq sz (C.ty e).size then chk (decide (0 ≤ n)) (nth (C.ty e).zero vs n.toNat fun cs => k (.ro cs)) else none
      | _,_ => none)
    | _ => none
  | .index t x i => match ev st x,ev st i with
    | .d (.str s),.d (.int _ n) => bif isStr (C.ty t).ty then chk (decide (0 ≤ n)) (nthB s n.toNat fun b => k (.d (.int .u8 b.toNat))) else none
    | .d (.agg vs),.d (.int _ n) => (match (C.ty t).ty with
      | .array len e => chk (decide (0 ≤ n)) (chk (decide (n < len)) (bif Nat.ble ((n.toNat + 1) * (C.ty e).size) vs.length then (match ofCells (C.ty e) (dr vs (n.toNat * (C.ty e).size)) with | some v => k (.d v) | none => none) else none))
      | _ => none)
    | _,_ => none
  | .call { callee:=.builtin .len,args,argTypes } => match args.toList with
    | [x] => (match (ev st x).data with
      | some (.slc _ vs) => (match argTypes.toList with
        | t :: _ => (match (C.ty t).ty with | .slice _ => k (.d (.int .i64 vs.length)) | _ => none)
        | [] => none)
      | some (.str s) => (match argTypes.toList with
        | t :: _ => (match (C.ty t).ty with | .str => k (.d (.int .i64 s.length)) | _ => none)
        | [] => none)
      | _ => none)
    | _ => none
  | .call { callee:=.builtin .min,args,.. } => match args.toList with
    | [x,y] => (match ev st x,ev st y with
      | .d (.int ka a),.d (.int kb b) => bif ka == kb then k (.d (.int ka (min a b))) else none
      | _,_ => none)
    | _ => none
  | .call { callee:=.builtin .max,args,.. } => match args.toList with
    | [x,y] => (match ev st x,ev st y with
      | .d (.int ka a),.d (.int kb b) => bif ka == kb then k (.d (.int ka (max a b))) else none
      | _,_ => none)
    | _ => none
  | _ => none
end
def nodupN:List Nat → Bool
  | [] => true
  | t :: l => !memN t l && nodupN l
def visit:Nat → List PObj → List Nat → List PV → List Nat
  | 0,_,acc,_ => acc
  | n + 1,H,acc,l => match l with
    | [] => acc
    | .ptr id _ :: l => bif memN id acc then visit n H acc l else (match gt none (H.map some) id with
      | some (.cells vs) => visit n H (acc ++ [id]) (vs ++ l)
      | _ => visit n H (acc ++ [id]) l)
    | .func _ c :: l => visit n H acc (c ++ l)
    | .tup vs :: l => visit n H acc (vs ++ l)
    | _ :: l => visit n H acc l
def idx (i:Nat):List Nat → Option Nat
  | [] => none
  | j :: l => bif Nat.beq i j then some 0 else (match idx i l with
    | some n => some (n + 1)
    | none => none)
def inV (ids:List Nat):PV → Option PV
  | .ptr id off => match idx id ids with
    | some j => some (.ptr j off)
    | none => none
  | .func f c => match inVs ids c with
    | some c => some (.func f c)
    | none => none
  | .tup vs => match inVs ids vs with
    | some vs => some (.tup vs)
    | none => none
  | v => some v
where inVs (ids:List Nat):List PV → Option (List PV)
  | [] => some []
  | v :: l => match inV ids v with
    | some v => match inVs ids l with
      | some l => some (v :: l)
      | none => none
    | none => none
def outV (g:Nat → Nat):PV → PV
  | .ptr id off => .ptr (g id) off
  | .func f c => .func f (outVs g c)
  | .tup vs => .tup (outVs g vs)
  | v => v
where outVs (g:Nat → Nat):List PV → List PV
  | [] => []
  | v :: l => outV g v :: outVs g l
def outO (g:Nat → Nat):PObj → PObj
  | .cells vs => .cells (outV.outVs g vs)
  | .iter s p => .iter s p
def gid (N:Nat):List Nat → Nat → Nat
  | [],j => N + j
  | i :: _,0 => i
  | _ :: l,j + 1 => gid N l j
def subO (ids:List Nat):PObj → Option PObj
  | .cells vs => match inV.inVs ids vs with
    | some vs => some (.cells vs)
    | none => none
  | .iter s p => some (.iter s p)
def subH (ids:List Nat) (H:List PObj):List Nat → Option (List PObj)
  | [] => some []
  | i :: l => match gt none (H.map some) i with
    | some ob => match subO ids ob with
      | some ob => match subH ids H l with
        | some r => some (ob :: r)
        | none => none
      | none => none
    | none => none
def outOs (g:Nat → Nat):List PObj → List PObj
  | [] => []
  | ob :: l => outO g ob :: outOs g l
def putH (g:Nat → Nat):List PObj → List Nat → List PObj → List PObj
  | H,i :: l,ob :: obs => putH g (up H i (outO g ob)) l obs
  | H,_,obs => H ++ outOs g obs
def outOut (g:Nat → Nat):Out → Out
  | .ret v => .ret (outV g v)
  | .pan v => .pan v
def Tr.map {α β:Type} (f:α → β):Tr α → Tr β
  | .ok a => .ok (f a)
  | .cnd b x y => .cnd b (x.map f) (y.map f)
  | .chk b x => .chk b (x.map f)
  | .no => .no
def frameTAt (ids:List Nat) (S:List PV → List PObj → Tr (Out × List PObj)) (args:List PV) (H:List PObj):Tr (Out × List PObj) :=
  bif nodupN ids then (match inV.inVs ids args with
    | some as => match subH ids H ids with
      | some H1 => (S as H1).map fun p => (outOut (gid H.length ids) p.1,putH (gid H.length ids) H ids p.2)
      | none => .no
    | none => .no) else .no
def frameT (S:List PV → List PObj → Tr (Out × List PObj)) (args:List PV) (H:List PObj):Tr (Out × List PObj) :=
  frameTAt (visit 200 H [] args) S args H
section
variable {R:Type}
inductive Org where
  | self
  | slot (v:Nat)
  | cell (a:Nat)
abbrev Sy:=Nat → Org
def Org.uses (t:Nat):Org → Bool
  | .self => false
  | .slot v => Nat.beq v t
  | .cell a => Nat.beq a t
def Org.keep (t:Nat) (g:Org):Org:=bif g.uses t then .self else g
def dropS (t:Nat) (sy:Sy):Sy:=fun u => bif Nat.beq u t then .self else (sy u).keep t
def addS (t:Nat) (g:Org) (sy:Sy):Sy:=fun u => bif Nat.beq u t then g else (sy u).keep t
def dropO (t:Option Tmp) (sy:Sy):Sy :=
  match t with
  | some t => dropS t sy
  | none => sy
def noSy:Sy:=fun _ => .self
def quiet:Op → Bool
  | .pick .. | .build .. | .buildSlice .. | .nilCheck .. | .binOp .. | .unOp .. | .convert .. | .makeInterface .. | .slice .. | .fieldAddr .. | .field .. | .indexAddr .. | .index .. => true
  | .call { callee:=.builtin .len,.. } => true
  | _ => false
def heapCells (h:List PObj) (id:Nat) (k:List PV → Option R):Option R :=
  match gt none (h.map some) id with
  | some (.cells vs) => k vs
  | _ => none
def takeOwn (st:St) (t:Nat) (src:Org) (k:Nat → List DV → St → Option R):Option R :=
  match gt .undef st.slots t with
  | .own sz vs => k sz vs (st.set t (.d (.slc sz vs)))
  | .d _ => match src with
    | .self => none
    | .slot v => (match gt .undef st.slots v with
      | .own sz vs => k sz vs (st.set v (.d (.slc sz vs)))
      | _ => none)
    | .cell a => (match gt .undef st.slots a with
      | .ptr id off => heapCells st.heap id fun cs => (match gt .undef cs off with
        | .own sz vs => k sz vs ⟨st.slots,up st.heap id (.cells (up cs off (.d (.slc sz vs))))⟩
        | _ => none)
      | _ => none)
  | _ => none
def sized (sz size:Nat) (x:Option R):Option R :=
  bif Nat.beq sz size then x else none
def limit (bytes n:Nat):Bool:=decide (n * bytes ≤ 140737488355328)
def pureCallee (C:Ctx):Operand → Bool
  | .func f => match C.env f with
    | some (.pure _) => true
    | _ => false
  | _ => false
def frCallee (C:Ctx):Operand → Bool
  | .func f => match C.env f with
    | some (.fr _) => true
    | _ => false
  | _ => false
def frCall (C:Ctx):Op → Bool
  | .call { callee:=.value f,.. } => frCallee C f
  | _ => false
def reach (st:St):Op → List Nat
  | .call { args,.. } => visit 200 st.heap [] (bargs [] (evs st args.toList))
  | _ => []
def apartR (ids:List Nat) (h:List PObj) (id:Nat):Bool:=Nat.ble (id + 1) h.length && !memN id ids
def keepO (ids:List Nat) (st:St):Org → Org
  | .cell a => match gt .undef st.slots a with
    | .ptr id _ => bif apartR ids st.heap id then .cell a else .self
    | _ => .self
  | g => g
def syncs (C:Ctx) (o:Oper) (st:St) (sy:Sy):Sy :=
  match o.op with
  | .move (.tmp v) => match o.dst with
    | some t => bif Nat.beq t v then dropS t sy else addS t (.slot v) sy
    | none => sy
  | .load T (.tmp a) => match o.dst with
    | some t => bif Nat.beq t a || !isScalar (C.ty T).ty then dropS t sy else addS t (.cell a) sy
    | none => sy
  | .call { callee:=.value f,args,.. } => bif pureCallee C f then dropO o.dst sy else bif frCallee C f then dropO o.dst (fun u => keepO (visit 200 st.heap [] (bargs [] (evs st args.toList))) st (sy u)) else noSy
  | op => bif quiet op then dropO o.dst sy else noSy
def isTup:PV → Bool
  | .tup _ => true
  | _ => false
def calms:List PV → Bool
  | [] => true
  | .own .. :: _ => false
  | .tup _ :: _ => false
  | _ :: l => calms l
def calm:PV → Bool
  | .own .. => false
  | .tup vs => calms vs
  | _ => true
def popK (C:Ctx) (sy:Sy) (o:Oper) (st:St) (kp:DV → List PObj → Option R) (k:St → Option R):Option R :=
  match o.op with
  | .move (.tmp t) => match gt .undef st.slots t with
    | .tup vs => bif calms vs then k (st.put o.dst (.tup vs)) else k ((st.set t .undef).put o.dst (.tup vs))
    | v => k (st.put o.dst v.plain)
  | .assign (.tmp t) => match gt .undef st.slots t with
    | .own sz vs => k ((st.set t (.d (.slc sz vs))).put o.dst (.own sz vs))
    | .tup _ => none
    | v => k (st.put o.dst v)
  | .assign (.const v) => k (st.put o.dst (ofConstT (C.esz o.type) v))
  | .extract (.tmp t) i => match gt .undef st.slots t with
    | .tup vs => (match gt .undef vs i with
      | .own sz es => k ((st.set t (.tup (up vs i (.d (.slc sz es))))).put o.dst (.own sz es))
      | .tup _ => none
      | .undef => none
      | v => k (st.put o.dst v))
    | _ => none
  | .alloc t => bif (C.ty t).zero.isEmpty then none else k (St.put ⟨st.slots,st.heap ++ [.cells (toCells (C.ty t).zero)]⟩ o.dst (.ptr st.heap.length 0))
  | .box t x => match ev st x with
    | .own sz vs => (match (generalizing:=false) x with
      | .tmp t => k (St.put ⟨up st.slots t (.d (.slc sz vs)),st.heap ++ [.cells [.own sz vs]]⟩ o.dst (.ptr st.heap.length 0))
      | _ => k (St.put ⟨st.slots,st.heap ++ [.cells [.own (C.esz t) []]]⟩ o.dst (.ptr st.heap.length 0)))
    | .d v => k (St.put ⟨st.slots,st.heap ++ [.cells (toCells v.cells)]⟩ o.dst (.ptr st.heap.length 0))
    | .func f c => k (St.put ⟨st.slots,st.heap ++ [.cells [.func f c]]⟩ o.dst (.ptr st.heap.length 0))
    | .ptr id off => k (St.put ⟨st.slots,st.heap ++ [.cells [.ptr id off]]⟩ o.dst (.ptr st.heap.length 0))
    | _ => none
  | .load t a => match ev st a with
    | .ptr id off => heapCells st.heap id fun cs => loadCells (C.ty t) (dr cs off) fun v => k (st.put o.dst v)
    | .ro vs => loadCells (C.ty t) (dCells vs) fun v => k (st.put o.dst v)
    | _ => none
  | .store t a x => match ev st a with
    | .ptr id off => heapCells st.heap id fun cs => bif Nat.beq (C.ty t).size 0 then none else bif isScalar (C.ty t).ty then
        (bif Nat.beq (C.ty t).size 1 && Nat.ble (off + 1) cs.length then (match ev st x with
          | .own sz vs => (match (generalizing:=false) x with
            | .tmp u => k (St.put ⟨up st.slots u (.d (.slc sz vs)),up st.heap id (.cells (up cs off (.own sz vs)))⟩ o.dst .undef)
            | _ => k (St.put ⟨st.slots,up st.heap id (.cells (up cs off (.own (C.esz t) [])))⟩ o.dst .undef))
          | .d v => bif v.scalar then k (St.put ⟨st.slots,up st.heap id (.cells (up cs off (toCell v)))⟩ o.dst .undef) else none
          | v => bif v.cellOk then k (St.put ⟨st.slots,up st.heap id (.cells (up cs off v))⟩ o.dst .undef) else none) else none)
      else (match ev st x with
        | .d (.agg vs) => bif (Nat.beq vs.length (C.ty t).size && Nat.ble (off + vs.length) cs.length) then
            k (St.put ⟨st.slots,up st.heap id (.cells (tk cs off ++ (toCells vs ++ dr cs (off + vs.length))))⟩ o.dst .undef) else none
        | _ => none)
    | _ => none
  | .panic x => match ev st x with
    | .d (.iface t v) => kp (.iface t v) st.heap
    | _ => none
  | .range t x => match (C.ty t).ty,ev st x with
    | .str,.d (.str s) => k (St.put ⟨st.slots,st.heap ++ [.iter s 0]⟩ o.dst (.ptr st.heap.length 0))
    | _,_ => none
  | .next x true => match ev st x with
    | .ptr id 0 => (match gt none (st.heap.map some) id with
      | some (.iter s pos) => cnd (decide (pos < s.length)) (
          k (St.put ⟨st.slots,up st.heap id (.iter s (pos + (Utf8.decode ⟨s.toArray⟩ pos).2))⟩ o.dst (.tup (dCells [.bool true,.int .i64 pos,.int .i32 (Utf8.decode ⟨s.toArray⟩ pos).1]))))
        (k (st.put o.dst (.tup (dCells [.bool false]))))
      | _ => none)
    | _ => none
  | .call { callee:=.builtin .append,args,argTypes } => match args.toList,argTypes.toList with
    | [.tmp t,x],[tT,tX] => (match (C.ty tT).ty with
      | .slice e => bif (C.ty e).zero.isEmpty || Nat.beq (C.ty e).bytes 0 then none else
        takeOwn st t (sy t) fun sz vs st' => sized sz (C.ty e).size (match (ev st' x).data,(C.ty tX).ty with
        | some (.slc sx xs),.slice _ => sized sx (C.ty e).size (chk (limit (C.ty e).bytes (vs.length + xs.length)) (k (st'.put o.dst (.own (C.ty e).size (vs ++ xs)))))
        | some (.str s),.str => bif Nat.beq (C.ty e).size 1 then chk (limit (C.ty e).bytes (vs.length + s.length)) (k (st'.put o.dst (.own (C.ty e).size (vs ++ bytesDV s)))) else none
        | _,_ => none)
      | _ => none)
    | _,_ => none
  | .call { callee:=.value f,args,.. } =>
    match (match ev st f with | .func f c => some (f,c) | _ => none) with
    | some (f,c) => (match C.env f with
      | some (.pure s) => (s (bargs c (evs st args.toList))).run fun v => k (st.put o.dst v)
      | some (.eff s) => (s (bargs c (evs st args.toList)) st.heap).run fun p => (match p with
        | (.ret v,h) => k (St.put ⟨st.slots,h⟩ o.dst v)
        | (.pan v,h) => kp v h)
      | some (.fr s) => (frameT s (bargs c (evs st args.toList)) st.heap).run fun p => (match p with
        | (.ret v,h) => k (St.put ⟨st.slots,h⟩ o.dst v)
        | (.pan v,h) => kp v h)
      | none => none)
    | none => none
  | .typeAssert x _ t ok => (match (C.ty t).ty,ev st x with
    | .struct _,.d (.iface s v) => bif Nat.beq s t then (bif ok then k (st.put o.dst (.tup (dCells [v,.bool true]))) else k (st.put o.dst (.d v))) else none
    | _,_ => none)
  | .pick c a b => bif isTup (ev st a) || isTup (ev st b) then none else pureK C (.pick c a b) st fun v => k (st.put o.dst v)
  | .move x => pureK C (.move x) st fun v => k (st.put o.dst v)
  | .assign _ => none
  | op => pureK C op st fun v => k (st.put o.dst v)
def guarded (ops:List Oper) (o:Oper) (st:St) (y n:St → Option R):Option R :=
  match o.guard with
  | none => y st
  | some (j,want) => match gt none (ops.map some) j with
    | some g => (match g.dst with
      | some t => (match gt .undef st.slots t with
        | .d (.bool b) => bif want then cnd b (y (st.set t (.d (.bool true)))) (n (st.set t (.d (.bool false))))
            else cnd b (n (st.set t (.d (.bool true)))) (y (st.set t (.d (.bool false))))
        | .skp => n st
        | _ => none)
      | none => none)
    | none => none
def lendS (C:Ctx) (sy:Sy) (o:Oper) (st:St):St :=
  bif C.lend then (match o.op with
    | .assign (.tmp t) => (match gt .undef st.slots t,sy t with
      | .d (.slc _ _),.slot v => (match gt .undef st.slots v with
        | .own sz vs => (st.set v (.d (.slc sz vs))).set t (.own sz vs)
        | _ => st)
      | _,_ => st)
    | _ => st)
  else st
def popsK (C:Ctx) (ops:List Oper) (kp:DV → List PObj → Option R) (k:St → Option R):List Oper → Sy → St → Option R
  | [],_,st => k st
  | o :: l,sy,st => guarded ops o st (fun st => popK C sy o (lendS C sy o st) kp fun st' => popsK C ops kp k l (syncs C o (lendS C sy o st) sy) st') (fun st => popsK C ops kp k l (dropO o.dst sy) (st.put o.dst .skp))
def tmpsL:List Operand → List Nat
  | [] => []
  | .tmp t :: l => t :: tmpsL l
  | _ :: l => tmpsL l
def guardT (ops:List Oper) (o:Oper):List Nat :=
  match o.guard with
  | none => []
  | some (j,_) => match gt none (ops.map some) j with
    | some g => (match g.dst with
      | some t => [t]
      | none => [])
    | none => []
def rdS (ops:List Oper) (o:Oper):List Nat:=tmpsL o.op.operands.toList ++ guardT ops o
def linS:Op → List Nat
  | .move (.tmp t) | .assign (.tmp t) | .extract (.tmp t) _ | .store _ _ (.tmp t) => [t]
  | _ => []
def sureV (C:Ctx):Op → Bool
  | .load .. => true
  | .call { callee:=.value f,.. } => pureCallee C f
  | .call { callee:=.builtin .len,.. } => true
  | .assign (.const _) => true
  | .move (.const _) => true
  | op => quiet op
def linV:Op → Bool
  | .move (.tmp _) | .assign (.tmp _) | .extract (.tmp _) _ => true
  | _ => false
def keepS (C:Ctx):Op → Bool
  | .move (.tmp _) => true
  | .load _ (.tmp _) => true
  | .call { callee:=.value f,.. } => pureCallee C f
  | op => quiet op
def calmI (o:Op) (st:St):Bool :=
  match o with
  | .move (.tmp t) => !isTup (gt .undef st.slots t)
  | .assign (.tmp t) => calm (gt .undef st.slots t)
  | .extract (.tmp t) i => (match gt .undef st.slots t with
    | .tup vs => calm (gt .undef vs i)
    | _ => true)
  | _ => true
def isDst (d:Nat):List Oper → Bool
  | [] => false
  | o :: l => (match o.dst with | some t => Nat.beq t d | none => false) || isDst d l
def apartB (ops:List Oper) (st:St) (id:Nat):Operand → Bool
  | .tmp s => !isDst s ops && (match gt .undef st.slots s with
    | .ptr id' _ => !Nat.beq id id'
    | .ro _ => true
    | _ => false)
  | _ => false
def belowB (ops:List Oper) (st:St):Operand → Bool
  | .tmp s => !isDst s ops && (match gt .undef st.slots s with
    | .ptr id' _ => Nat.ble (id' + 1) st.heap.length
    | .ro _ => true
    | _ => false)
  | _ => false
def calmAll (st:St) (rd:List Nat):List Nat → Bool
  | [] => true
  | t :: l => (!memN t rd || calm (gt .undef st.slots t)) && calmAll st rd l
def isDstOf (d:Option Tmp) (l:List Nat):Bool :=
  match d with
  | some d => memN d l
  | none => false
def sameDst (x y:Option Tmp):Bool :=
  match x,y with
  | some a,some b => Nat.beq a b
  | _,_ => false
def swapB (C:Ctx) (ops:List Oper) (app:Bool) (i b:Oper) (st:St):Bool :=
  (!isDstOf i.dst (rdS ops b) && !sameDst i.dst b.dst && !isDstOf b.dst (rdS ops i)) && (!app || (keepS C i.op && keepS C b.op)) &&
  (((sureV C i.op || linV i.op) && calmI i.op st && calmAll st (rdS ops i) (linS b.op) && (match b.op with
      | .alloc _ => true
      | .store _ y _ => (match i.op with
        | .load _ x => (match ev st x with | .ptr id _ => apartB ops st id y | .ro _ => true | _ => false)
        | _ => true)
      | op => sureV C op || linV op))
  || (sureV C b.op && calmAll st (rdS ops b) (linS i.op) && (match i.op with
      | .store _ x _ => (match ev st x with
        | .ptr id _ => (match b.op with | .load _ y => apartB ops st id y | _ => true)
        | _ => false)
      | .alloc _ => (match b.op with | .load _ y => belowB ops st y | _ => true)
      | _ => false)))
def ordered1 (i:Nat) (b:Oper):Bool:=b.after.toList.any fun e => Region.binds .any e && Nat.beq e.on i
def ancE (acc:List Nat):List Edge → Nat
  | [] => 0
  | e :: l => bif Region.binds .any e then Nat.lor (Nat.lor (2 ^ e.on) (gt 0 acc e.on)) (ancE acc l) else ancE acc l
def ancs:List Oper → List Nat → List Nat
  | [],acc => acc
  | o :: l,acc => ancs l (acc ++ [ancE acc o.after.toList])
def hasBit (m i:Nat):Bool:=Nat.beq ((m / 2 ^ i) % 2) 1
def ordered2 (ops:List Oper) (i:Nat) (b:Oper):Bool :=
  ordered1 i b || hasBit (ancE (ancs ops []) b.after.toList) i
def isAlloc:Op → Bool
  | .alloc _ => true
  | _ => false
def freeA (C:Ctx):Op → Bool
  | .move (.tmp _) => true
  | op => sureV C op
def noDst (ops:List Oper):List Nat → Bool
  | [] => true
  | t :: l => !isDst t ops && noDst ops l
def swapS (C:Ctx) (ops:List Oper) (app:Bool) (i b x:Oper):Bool :=
  (!isDstOf i.dst (rdS ops b) && !sameDst i.dst b.dst && !isDstOf b.dst (rdS ops i)) && (!app || keepS C x.op)
def goes (C:Ctx) (ops:List Oper) (o:Oper) (st:St):Bool :=
  (guarded ops o st (fun st => popK (R:=Unit) C noSy o st (fun _ _ => none) fun _ => some ()) (fun _ => some ())).isSome
def swapF (C:Ctx) (ops:List Oper) (app:Bool) (i b:Oper) (st:St):Bool :=
  (frCall C b.op && freeA C i.op && calmI i.op st && swapS C ops app i b i)
  || (frCall C i.op && quiet b.op && noDst ops (rdS ops b) && goes C ops b st && swapS C ops app i b b)
def appSrc:Op → Option Nat
  | .call { callee:=.builtin .append,args,.. } => match args.toList with
    | [.tmp t,_] => some t
    | _ => none
  | _ => none
def notAt (d:Option Tmp) (v:Nat):Bool:=match d with
  | some t => !Nat.beq t v
  | none => true
def swapG (C:Ctx) (ops:List Oper) (app:Bool) (i b:Oper) (sy:Sy) (st:St):Bool :=
  match appSrc i.op with
  | some t => app && quiet b.op && noDst ops (rdS ops b) && goes C ops b st && swapS C ops app i b b && !memN t (rdS ops b) && (match sy t with
    | .self => true
    | .slot v => notAt b.dst v && !memN v (rdS ops b)
    | .cell a => notAt b.dst a)
  | none => false
def dynAll (C:Ctx) (ops:List Oper) (app two:Bool) (i:Nat) (o:Oper) (sy:Sy) (st:St):List (Nat × Oper) → Bool
  | [] => true
  | (_,b) :: l => (ordered2 ops i b || (two && isAlloc o.op && isAlloc b.op) || swapB C ops app o b st || swapF C ops app o b st || swapG C ops app o b sy st) && dynAll C ops app two i o sy st l
def isDstN (s:Nat):List (Nat × Oper) → Bool
  | [] => false
  | (_,o) :: l => (match o.dst with | some t => Nat.beq t s | none => false) || isDstN s l
def backAll (C:Ctx) (ops:List Oper) (app:Bool) (n:Nat) (c:Oper) (st:St):List (Nat × Oper) → Bool
  | [] => true
  | (j,o) :: l => (Nat.ble n j || ordered2 ops j c || (match o.op with
      | .load _ (.tmp s) => !isDstN s ((j,o) :: l) && (match gt .undef st.slots s with
        | .ptr id _ => apartR (reach st c.op) st.heap id
        | .ro _ => !app
        | .skp => true
        | _ => false)
      | .load _ _ => false
      | _ => true)) && backAll C ops app n c st l
def turnB (C:Ctx) (ops:List Oper) (app:Bool) (l:List (Nat × Oper)) (n:Nat) (c:Oper) (st:St):Bool :=
  bif frCall C c.op then backAll C ops app n c st l else true
def downB (i:Nat) (o:Oper):Bool:=o.after.toList.all fun e => !Region.binds .any e || Nat.ble (e.on + 1) i
def stepK (C:Ctx) (ops:List Oper) (app:Bool) (kp:DV → List PObj → Option R) (o:Oper) (sy:Sy) (st:St) (K:Sy → St → Option R):Option R :=
  guarded ops o st (fun st => popK C sy o st kp fun st' => K (bif app then syncs C o st sy else sy) st') (fun st => K (bif app then dropO o.dst sy else sy) (st.put o.dst .skp))
def numbered:Nat → List Oper → List (Nat × Oper)
  | _,[] => []
  | n,o :: l => (n,o) :: numbered (n + 1) l
def runD (C:Ctx) (ops:List Oper) (app two:Bool) (kp:DV → List PObj → Option R) (k:St → Option R):List (Nat × Oper) → Sy → St → Option R
  | [],_,st => k st
  | (i,o) :: l,sy,st => bif downB i o && dynAll C ops app two i o sy st l && turnB C ops app (numbered 0 ops) i o st then stepK C ops app kp o sy st (fun sy' st' => runD C ops app two kp k l sy' st') else none
def hasApp:List Oper → Bool
  | [] => false
  | o :: l => (match o.op with | .call { callee:=.builtin .append,.. } => true | _ => false) || hasApp l
def allocs:List (Nat × Oper) → List (Nat × Oper)
  | [] => []
  | q :: l => bif isAlloc q.2.op then q :: allocs l else allocs l
def without (i:Nat):List (Nat × Oper) → List (Nat × Oper)
  | [] => []
  | q :: l => bif Nat.beq q.1 i then without i l else q :: without i l
def before (i:Nat) (x:Nat × Oper):List (Nat × Oper) → List (Nat × Oper)
  | [] => []
  | q :: l => bif Nat.beq q.1 i then x :: q :: before i x l else q :: before i x l
def altOrder (l:List (Nat × Oper)):Option (List (Nat × Oper)) :=
  match allocs l with
  | [a,b] => some (before a.1 b (without b.1 l))
  | _ => none
def okOp (C:Ctx) (op:Op):Bool:=sureV C op || linV op || (match op with | .store .. | .alloc _ => true | _ => false)
def allOk (C:Ctx):List Oper → Bool
  | [] => true
  | o :: l => okOp C o.op && allOk C l
noncomputable def amb (x y:Option R):Option R:=open Classical in if x = y then x else none
noncomputable def drawK (C:Ctx) (ops:List Oper) (kp:DV → List PObj → Option R) (k:St → Option R) (st:St):Option R :=
  match altOrder (numbered 0 ops) with
  | none => runD C ops (hasApp ops) false kp k (numbered 0 ops) noSy st
  | some l => bif !allOk C ops then none else amb (runD C ops (hasApp ops) true kp k (numbered 0 ops) noSy st) (runD C ops (hasApp ops) true kp k l noSy st)
def tempsR:List Oper → List Nat
  | [] => []
  | o :: l => match o.op,o.dst with
    | .assign _,_ => tempsR l
    | .move (.tmp s),some t => bif Nat.blt t s then tempsR l else t :: tempsR l
    | _,some t => t :: tempsR l
    | _,none => tempsR l
def temps:Code → List Nat
  | .region _ ops _ => tempsR ops.toList
  | .seq a b | .cond _ a b => temps a ++ temps b
  | .block _ c | .loop c | .scope c => temps c
  | _ => []
def forget:List Nat → List PV → List PV
  | [],l => l
  | t :: ts,l => forget ts (up l t .undef)
def below (n:Nat):PV → Bool
  | .ptr id _ => Nat.ble (id + 1) n
  | .func _ c => belows n c
  | .tup _ => false
  | _ => true
where belows (n:Nat):List PV → Bool
  | [] => true
  | v :: l => below n v && belows n l
def belowsAll (n:Nat):List PV → Bool
  | [] => true
  | v :: l => below n v && belowsAll n l
def belowH (n:Nat):List PObj → Bool
  | [] => true
  | .cells vs :: l => belowsAll n vs && belowH n l
  | .iter .. :: l => belowH n l
def head (n:Nat) (ts:List Nat) (st:St) (k:St → Option R):Option R :=
  bif (belowsAll n (forget ts st.slots) && belowH n (tk st.heap n)) then k ⟨forget ts st.slots,tk st.heap n⟩ else none
def cutSt (n:Nat) (sl:List PV) (h:List PObj):St:=bif belowsAll n sl && belowH n (tk h n) then ⟨sl,tk h n⟩ else ⟨sl,h⟩
def cutH (n:Nat) (h:List PObj):List PObj:=bif belowH n (tk h n) then tk h n else h
def loopK (body:St → (Ex → St → Option R) → Option R) (n:Nat) (ts xs:List Nat):Nat → St → (Ex → St → Option R) → Option R
  | 0,_,_ => none
  | m + 1,st,k => body st fun e st' => match e with
    | .normal => head n ts st' fun st'' => loopK body n ts xs m st'' k
    | .pan v => k (.pan v) ⟨forget xs st'.slots,cutH n st'.heap⟩
    | e => k e (cutSt n (forget xs st'.slots) st'.heap)
def settle (st:St) (c:Operand) (b:Bool):St :=
  match c with
  | .tmp t => st.set t (.d (.bool b))
  | _ => st
def loopId:Code → Nat
  | .region id _ _ => id
  | .seq a _ => loopId a
  | .cond _ a _ => loopId a
  | .block _ a | .loop a | .scope a => loopId a
  | _ => 0
noncomputable def pcodeK (C:Ctx) (L:Lps):Code → St → (Ex → St → Option R) → Option R
  | .skip,st,k | .label _,st,k => k .normal st
  | .region _ ops draw,st,k => bif draw then drawK C ops.toList (fun v h => k (.pan v) ⟨[],h⟩) (k .normal) st
    else popsK C ops.toList (fun v h => k (.pan v) ⟨[],h⟩) (k .normal) ops.toList noSy st
  | .seq a b,st,k => pcodeK C L a st fun e st' => match e with
    | .normal => pcodeK C L b st' k
    | e => k e st'
  | .cond c a b,st,k => match ev st c with
    | .d (.bool t) => cnd t (pcodeK C L a (settle st c true) k) (pcodeK C L b (settle st c false) k)
    | _ => none
  | .block id c,st,k => pcodeK C L c st fun e st' => match e with
    | .exit j => bif Nat.beq j id then k .normal st' else k (.exit j) st'
    | e => k e st'
  | .loop c,st,k => match L (loopId c) with
    | some (ks,_,T) => head st.heap.length (ks ++ temps c) st fun st' => (T st').run fun p => k p.1 p.2
    | none => head st.heap.length (temps c) st fun st' => loopK (pcodeK C L c) st.heap.length (temps c) (temps c) C.fuel st' k
  | .exit id,st,k => k (.exit id) st
  | .ret,st,k => k .ret st
  | _,_,_ => none
end
end Go.PS
end

section
namespace Go.PS
open Go.RowKit
section lists
variable {α:Type}
theorem gt_up (d:α) (l:List α) (i j:Nat) (x:α):gt d (up l i x) j = if j = i ∧ i < l.length then x else gt d l j:=by
  induction l generalizing i j with
  | nil => simp [up,gt]
  | cons v l ih =>
    cases i with
    | zero => cases j <;> simp [up,gt]
    | succ i => cases j with
      | zero => simp [up,gt]
      | succ j => simp only [up,gt,ih,List.length_cons]; simp
@[simp] theorem up_length (l:List α) (i:Nat) (x:α):(up l i x).length = l.length:=by
  induction l generalizing i with
  | nil => rfl
  | cons v l ih => cases i <;> simp [up,ih]
theorem gt_eq (d:α) (l:List α) (i:Nat):gt d l i = l[i]?.getD d:=by
  induction l generalizing i with
  | nil => simp [gt]
  | cons v l ih => cases i <;> simp [gt,ih]
theorem up_eq (l:List α) (i:Nat) (x:α):up l i x = l.set i x:=by
  induction l generalizing i with
  | nil => rfl
  | cons v l ih => cases i <;> simp [up,ih]
theorem tk_eq (l:List α) (n:Nat):tk l n = l.take n:=by
  induction l generalizing n with
  | nil => cases n <;> rfl
  | cons v l ih => cases n <;> simp [tk,ih]
theorem dr_eq (l:List α) (n:Nat):dr l n = l.drop n:=by
  induction l generalizing n with
  | nil => cases n <;> rfl
  | cons v l ih => cases n <;> simp [dr,ih]
theorem gt_some (l:List α) (i:Nat):gt none (l.map some) i = l[i]?:=by
  rw [gt_eq]; simp only [List.getElem?_map]; cases l[i]? <;> rfl
end lists
inductive Pl where
  | slot (j k:Nat)
  | obj (id:Nat)
  | cell (id off:Nat)
  | res (k:Nat)
  | ext
  | dead
abbrev Own:=Nat → Option (Nat × Pl)
def Stab (o:Own) (w:World) (b off:Nat) (x:Value):Prop :=
  w.cell? ⟨b,off,none⟩ = some x ∧ ∀ lo p,o b = some (lo,p) → off < lo
mutual
inductive Enc (o:Own) (w:World):DV → Value → Prop
  | int (k n):Enc o w (.int k n) (.int k n)
  | bool (b):Enc o w (.bool b) (.bool b)
  | str (s:List UInt8) (h:s.length ≤ 9223372036854775807):Enc o w (.str s) (.string ⟨s.toArray⟩)
  | slcNil (sz):Enc o w (.slc sz []) (.slice none 0 0)
  | slcZ (sz) (a:Addr):Enc o w (.slc sz []) (.slice (some a) 0 0)
  | nils (sz):Enc o w (.nils sz) (.slice none 0 0)
  | slc (sz:Nat) (vs:List DV) (b off cap:Nat) (xs:List Value) (hl:vs.length ≤ cap) (hm:cap ≤ 9223372036854775807) (hx:EncL o w vs xs)
      (hc:∀ i x,xs[i]? = some x → x.cells.size = sz ∧ ∀ (j:Nat) y,x.cells[j]? = some y → Stab o w b (off + i * sz + j) y) :
      Enc o w (.slc sz vs) (.slice (some ⟨b,off,none⟩) vs.length cap)
  | agg (vs:List DV) (xs:List Value) (hx:EncL o w vs xs) (hs:∀ v ∈ vs,v.scalar = true):Enc o w (.agg vs) (.agg xs.toArray)
  | nilp:Enc o w .nilp (.pointer none)
  | nilf:Enc o w .nilf .nilFunc
  | nili:Enc o w .nili .nilIface
  | iface (t v x) (h:Enc o w v x):Enc o w (.iface t v) (.iface t x)
  | ifc (t x):Enc o w (.ifc t) (.iface t x)
inductive EncL (o:Own) (w:World):List DV → List Value → Prop
  | nil:EncL o w [] []
  | cons {v x vs xs} (h:Enc o w v x) (t:EncL o w vs xs):EncL o w (v :: vs) (x :: xs)
end
mutual
inductive PEnc (o:Own) (w:World) (sig:List Nat):PV → Value → Prop
  | d {v x} (h:Enc o w v x):PEnc o w sig (.d v) x
  | own {sz vs x} (h:Enc o w (.slc sz vs) x):PEnc o w sig (.own sz vs) x
  | ptr {id off b} (h:sig[id]? = some b):PEnc o w sig (.ptr id off) (.pointer (some ⟨b,off,none⟩))
  | ro {vs b off} (ys:List Value) (hx:EncL o w vs ys) (hc:∀ (j:Nat) y,ys[j]? = some y → Stab o w b (off + j) y) (hs:∀ v ∈ vs,v.scalar = true):PEnc o w sig (.ro vs) (.pointer (some ⟨b,off,none⟩))
  | func {f cs xs} (hn:notSkp cs = true) (h:PEncL o w sig cs xs):PEnc o w sig (.func f cs) (.func (.func f) #[] xs.toArray)
  | bnd {f fs xs} (h:PEncL o w sig fs xs):PEnc o w sig (.func f (.skp :: fs)) (.func (.func f) xs.toArray #[])
  | tup {vs xs} (h:PEncL o w sig vs xs):PEnc o w sig (.tup vs) (.tuple xs.toArray)
  | undef {x}:PEnc o w sig .undef x
  | skp:PEnc o w sig .skp undef
inductive PEncL (o:Own) (w:World) (sig:List Nat):List PV → List Value → Prop
  | nil:PEncL o w sig [] []
  | cons {v x vs xs} (h:PEnc o w sig v x) (t:PEncL o w sig vs xs):PEncL o w sig (v :: vs) (x :: xs)
end
theorem EncL.length {o w vs xs} (h:EncL o w vs xs):vs.length = xs.length:=by
  match h with
  | .nil => rfl
  | .cons _ t => simp [t.length]
theorem PEncL.length {o w sig vs xs} (h:PEncL o w sig vs xs):vs.length = xs.length:=by
  match h with
  | .nil => rfl
  | .cons _ t => simp [t.length]
theorem EncL.get {o w vs xs} (h:EncL o w vs xs):∀ {i:Nat} {v},vs[i]? = some v → ∃ x,xs[i]? = some x ∧ Enc o w v x:=by
  match h with
  | .nil => intro i v hv; simp at hv
  | .cons (x:=x) hh t =>
    intro i v hv
    cases i with
    | zero => simp at hv; subst hv; exact ⟨x,by simp,hh⟩
    | succ i => simp at hv; simpa using t.get hv
theorem EncL.get' {o w vs xs} (h:EncL o w vs xs):∀ {i:Nat} {x},xs[i]? = some x → ∃ v,vs[i]? = some v ∧ Enc o w v x:=by
  match h with
  | .nil => intro i v hv; simp at hv
  | .cons (v:=v) hh t =>
    intro i x hv
    cases i with
    | zero => simp at hv; subst hv; exact ⟨v,by simp,hh⟩
    | succ i => simp at hv; simpa using t.get' hv
theorem EncL.append {o w vs xs us ys} (h:EncL o w vs xs) (g:EncL o w us ys):EncL o w (vs ++ us) (xs ++ ys):=by
  match h with
  | .nil => simpa using g
  | .cons hh t => exact .cons hh (t.append g)
theorem EncL.take {o w vs xs} (h:EncL o w vs xs) (n:Nat):EncL o w (vs.take n) (xs.take n):=by
  match h,n with
  | _,0 => simp; exact .nil
  | .nil,n + 1 => simp; exact .nil
  | .cons hh t,n + 1 => simp; exact .cons hh (t.take n)
theorem EncL.drop {o w vs xs} (h:EncL o w vs xs) (n:Nat):EncL o w (vs.drop n) (xs.drop n):=by
  match h,n with
  | h,0 => simpa using h
  | .nil,n + 1 => simp; exact .nil
  | .cons hh t,n + 1 => simpa using t.drop n
theorem EncL.set {o w vs xs} (h:EncL o w vs xs) {v x} (hv:Enc o w v x) (i:Nat):EncL o w (vs.set i v) (xs.set i x):=by
  match h,i with
  | .nil,_ => simp; exact .nil
  | .cons hh t,0 => exact .cons hv t
  | .cons hh t,i + 1 => exact .cons hh (t.set hv i)
theorem Enc.cells {o w v x} (h:Enc o w v x):EncL o w v.cells x.cells.toList:=by
  cases h with
  | agg vs xs hx hs => simpa [DV.cells,Value.cells] using hx
  | int k n => exact .cons (.int k n) .nil
  | bool b => exact .cons (.bool b) .nil
  | str s h => exact .cons (.str s h) .nil
  | slcNil sz => exact .cons (.slcNil sz) .nil
  | slcZ sz a => exact .cons (.slcZ sz a) .nil
  | nils sz => exact .cons (.nils sz) .nil
  | slc sz vs b off cap xs hl hm hx hc => exact .cons (.slc sz vs b off cap xs hl hm hx hc) .nil
  | nilp => exact .cons .nilp .nil
  | nilf => exact .cons .nilf .nil
  | nili => exact .cons .nili .nil
  | iface t v x h => exact .cons (.iface t v x h) .nil
  | ifc t x => exact .cons (.ifc t x) .nil
theorem Enc.scalars {o w v x} (h:Enc o w v x):∀ c ∈ v.cells,c.scalar = true:=by
  cases h with
  | agg vs xs hx hs => exact hs
  | _ => intro c hc; simp [DV.cells] at hc; subst hc; rfl
theorem Enc.cells_size {o w v x} (h:Enc o w v x):x.cells.size = v.cells.length:=by
  have:=h.cells.length; simp at this; exact this.symm
theorem PEncL.get {o w sig vs xs} (h:PEncL o w sig vs xs):∀ i,PEnc o w sig (gt .undef vs i) (xs.getD i undef):=by
  match h with
  | .nil => intro i; simp [gt]; exact .undef
  | .cons (x:=x) hh t =>
    intro i
    cases i with
    | zero => simpa [gt] using hh
    | succ i => simpa [gt] using t.get i
section mono
variable {o o' : Own} {w w' : World} (hs:∀ b off x,Stab o w b off x → Stab o' w' b off x)
include hs
mutual
theorem Enc.mono {v x} (h:Enc o w v x):Enc o' w' v x:=by
  match h with
  | .int k n => exact .int k n
  | .bool b => exact .bool b
  | .str s h => exact .str s h
  | .slcNil sz => exact .slcNil sz
  | .slcZ sz a => exact .slcZ sz a
  | .nils sz => exact .nils sz
  | .slc sz vs b off cap xs hl hm hx hc => exact .slc sz vs b off cap xs hl hm (EncL.mono hx) fun i x hi => ⟨(hc i x hi).1,fun j y hj => hs _ _ _ ((hc i x hi).2 j y hj)⟩
  | .agg vs xs hx hsc => exact .agg vs xs (EncL.mono hx) hsc
  | .nilp => exact .nilp
  | .nilf => exact .nilf
  | .nili => exact .nili
  | .iface t v x h => exact .iface t v x (Enc.mono h)
  | .ifc t x => exact .ifc t x
theorem EncL.mono {vs xs} (h:EncL o w vs xs):EncL o' w' vs xs:=by
  match h with
  | .nil => exact .nil
  | .cons hh t => exact .cons (Enc.mono hh) (EncL.mono t)
end
variable {sig sig' : List Nat} (hg:∀ (id:Nat) b,sig[id]? = some b → sig'[id]? = some b)
include hg
mutual
theorem PEnc.mono {v x} (h:PEnc o w sig v x):PEnc o' w' sig' v x:=by
  match h with
  | .d h => exact .d (Enc.mono hs h)
  | .own h => exact .own (Enc.mono hs h)
  | .ptr h => exact .ptr (hg _ _ h)
  | .ro ys hx hc hsc => exact .ro ys (EncL.mono hs hx) (fun j y hj => hs _ _ _ (hc j y hj)) hsc
  | .func hn h => exact .func hn (PEncL.mono h)
  | .bnd h => exact .bnd (PEncL.mono h)
  | .tup h => exact .tup (PEncL.mono h)
  | .undef => exact .undef
  | .skp => exact .skp
theorem PEncL.mono {vs xs} (h:PEncL o w sig vs xs):PEncL o' w' sig' vs xs:=by
  match h with
  | .nil => exact .nil
  | .cons hh t => exact .cons (PEnc.mono hh) (PEncL.mono t)
end
end mono
theorem PEnc.plain {o w sig v x} (h:PEnc o w sig v x):PEnc o w sig v.plain x:=by
  cases h with
  | own h => exact .d h
  | d h => exact .d h
  | ptr h => exact .ptr h
  | ro ys hx hc hs => exact .ro ys hx hc hs
  | func hn h => exact .func hn h
  | bnd h => exact .bnd h
  | tup h => exact .tup h
  | undef => exact .undef
  | skp => exact .skp
theorem PEnc.data {o w sig v x d} (h:PEnc o w sig v x) (hd:v.data = some d):Enc o w d x:=by
  cases h with
  | d h =>
    unfold PV.data at hd
    split at hd
    · rename_i heq; simp at heq; subst heq; simp at hd; subst hd; cases h; exact .slcNil _
    · rename_i heq; simp at heq; subst heq; simp at hd; subst hd; exact h
    · rename_i heq; simp at heq
    · simp at hd
  | own h => simp [PV.data] at hd; subst hd; exact h
  | ptr h => simp [PV.data] at hd
  | ro ys hx hc hs => simp [PV.data] at hd
  | func hn h => simp [PV.data] at hd
  | bnd h => simp [PV.data] at hd
  | tup h => simp [PV.data] at hd
  | undef => simp [PV.data] at hd
  | skp => simp [PV.data] at hd
def Prot:Option (Nat × Pl) → Prop
  | none => True
  | some (_,.ext) => True
  | _ => False
structure Step (o:Own) (w:World) (o' : Own) (w' : World):Prop where
  os:w'.os = w.os
  tape:w'.tape = w.tape
  output:w'.output = w.output
  size:w.heap.size ≤ w'.heap.size
  prot:∀ b,b < w.heap.size → Prot (o b) → w'.heap[b]? = w.heap[b]? ∧ o' b = o b
  stab:∀ b off x,Stab o w b off x → Stab o' w' b off x
theorem Step.refl (o:Own) (w:World):Step o w o w:=⟨rfl,rfl,rfl,Nat.le_refl _,fun _ _ _ => ⟨rfl,rfl⟩,fun _ _ _ h => h⟩
theorem Step.trans {o w o1 w1 o2 w2} (h:Step o w o1 w1) (g:Step o1 w1 o2 w2):Step o w o2 w2 :=
  ⟨g.os.trans h.os,g.tape.trans h.tape,g.output.trans h.output,Nat.le_trans h.size g.size,
   fun b hb hp => by
    obtain ⟨e1,e2⟩:=h.prot b hb hp
    obtain ⟨e3,e4⟩:=g.prot b (Nat.lt_of_lt_of_le hb h.size) (by rw [e2]; exact hp)
    exact ⟨e3.trans e1,e4.trans e2⟩,
   fun b off x hx => g.stab _ _ _ (h.stab _ _ _ hx)⟩
def Cap (o:Own) (w:World) (p:Pl):PV → Value → Prop
  | .own sz _,.slice (some a) n c => n < c → a.off = 0 ∧ o a.block = some (n * sz,p) ∧ ∃ cs T,w.heap[a.block]? = some (.cells cs T (0,0)) ∧ cs.size = c * sz
  | _,_ => True
def PV.noOwn:PV → Prop
  | .own .. => False
  | _ => True
theorem Cap.of_noOwn {o w p v x} (h:v.noOwn):Cap o w p v x:=by
  cases v <;> first | trivial | exact h.elim
theorem PV.plain_noOwn (v:PV):v.plain.noOwn:=by cases v <;> trivial
def cmpV (v:PV) (k:Nat):PV :=
  match v with
  | .tup vs => gt .undef vs k
  | v => if k = 0 then v else .undef
def cmpX (v:PV) (x:Value) (k:Nat):Value :=
  match v,x with
  | .tup _,.tuple xs => xs.getD k undef
  | _,x => x
structure Gl (W0:World) (o:Own) (w:World):Prop where
  size:W0.heap.size ≤ w.heap.size
  keep:∀ b,b < W0.heap.size → w.heap[b]? = W0.heap[b]? ∧ o b = none
  fin:∀ b,o b ≠ none → b < w.heap.size
def ObjEnc (o:Own) (w:World) (sig:List Nat) (id b:Nat):PObj → Prop
  | .cells vs => ∃ (cs:Array Value) (T:TypeId),w.heap[b]? = some (.cells cs T (0,0)) ∧ cs.size = vs.length ∧
      ∀ off,off < vs.length → PEnc o w sig (gt .undef vs off) (cs.getD off undef) ∧ Cap o w (.cell id off) (gt .undef vs off) (cs.getD off undef) ∧ (gt .undef vs off).cellOk = true
  | .iter s pos => w.heap[b]? = some (.stringIter ⟨s.toArray⟩ pos)
structure RelH (o:Own) (sig:List Nat) (heap:List PObj) (w:World):Prop where
  sigl:sig.length = heap.length
  obj:∀ (id:Nat) ob,heap[id]? = some ob → ∃ b,sig[id]? = some b ∧ o b = some (0,.obj id) ∧ ObjEnc o w sig id b ob
structure Rel (W0:World) (o:Own) (sig:List Nat) (st:St) (tm:Array Value) (w:World):Prop where
  gl:Gl W0 o w
  len:st.slots.length ≤ tm.size
  slot:∀ j,PEnc o w sig (gt .undef st.slots j) (tm.getD j undef)
  cap:∀ j k,Cap o w (.slot j k) (cmpV (gt .undef st.slots j) k) (cmpX (gt .undef st.slots j) (tm.getD j undef) k)
  hp:RelH o sig st.heap w
theorem cap_cmp_noOwn {o w j x} {v:PV} (h:v.noOwn) (ht:∀ vs,v ≠ .tup vs) (k:Nat):Cap o w (.slot j k) (cmpV v k) (cmpX v x k):=by
  unfold cmpV
  split
  · rename_i vs; exact absurd rfl (ht vs)
  · split
    · exact Cap.of_noOwn h
    · exact Cap.of_noOwn trivial
theorem Rel.set {W0 o sig st tm w} (h:Rel W0 o sig st tm w) {d:Nat} {v:PV} {x:Value} (hv:PEnc o w sig v x)
    (hc:∀ k,Cap o w (.slot d k) (cmpV v k) (cmpX v x k)):Rel W0 o sig (st.set d v) (tm.setIfInBounds d x) w where
  gl:=h.gl
  len:=by simp [St.set]; exact h.len
  slot j:=by
    simp only [St.set,gt_up]
    by_cases e:j = d ∧ d < st.slots.length
    · obtain ⟨rfl,hl⟩:=e
      have:j < tm.size:=Nat.lt_of_lt_of_le hl h.len
      simp [hl,Array.getD,this,hv]
    · rw [if_neg e]
      by_cases ej:j = d
      · subst ej
        have hl:¬ j < st.slots.length:=fun q => e ⟨rfl,q⟩
        have:gt .undef st.slots j = .undef:=by rw [gt_eq,List.getElem?_eq_none (by omega)]; rfl
        rw [this]; exact .undef
      · have:(tm.setIfInBounds d x).getD j undef = tm.getD j undef:=by
          simp [Ne.symm ej]
        rw [this]; exact h.slot j
  cap j k:=by
    simp only [St.set,gt_up]
    by_cases e:j = d ∧ d < st.slots.length
    · obtain ⟨rfl,hl⟩:=e
      have:j < tm.size:=Nat.lt_of_lt_of_le hl h.len
      simpa [hl,Array.getD,this] using hc k
    · rw [if_neg e]
      by_cases ej:j = d
      · subst ej
        have hl:¬ j < st.slots.length:=fun q => e ⟨rfl,q⟩
        have:gt .undef st.slots j = .undef:=by rw [gt_eq,List.getElem?_eq_none (by omega)]; rfl
        rw [this]; exact cap_cmp_noOwn (v:=.undef) trivial (by simp) k
      · have:(tm.setIfInBounds d x).getD j undef = tm.getD j undef:=by
          simp [Ne.symm ej]
        rw [this]; exact h.cap j k
  hp:=h.hp
theorem Rel.put {W0 o sig st w} {a:Act} (h:Rel W0 o sig st a.tmps w) {dst:Option Tmp} {v:PV} {x:Value} (hv:PEnc o w sig v x)
    (hc:∀ d,dst = some d → ∀ k,Cap o w (.slot d k) (cmpV v k) (cmpX v x k)):Rel W0 o sig (st.put dst v) (a.put dst x).tmps w:=by
  cases dst with
  | none => exact h
  | some d => exact h.set hv (hc d rfl)
theorem Rel.put_plain {W0 o sig st w} {a:Act} (h:Rel W0 o sig st a.tmps w) {dst:Option Tmp} {v:PV} {x:Value} (hv:PEnc o w sig v x)
    (hn:v.noOwn) (ht:∀ vs,v ≠ .tup vs):Rel W0 o sig (st.put dst v) (a.put dst x).tmps w :=
  h.put hv fun _ _ k => cap_cmp_noOwn hn ht k
structure Grow (o:Own) (w:World) (o' : Own) (w' : World):Prop where
  os:w'.os = w.os
  tape:w'.tape = w.tape
  output:w'.output = w.output
  size:w.heap.size ≤ w'.heap.size
  same:∀ b,b < w.heap.size → w'.heap[b]? = w.heap[b]? ∧ o' b = o b
  fin:∀ b,o' b ≠ none → b < w'.heap.size
theorem cell_lt {w:World} {b off x} (h:w.cell? ⟨b,off,none⟩ = some x):b < w.heap.size:=World.block_lt_of_cell? w _ h
theorem Grow.step {o w o' w'} (h:Grow o w o' w'):Step o w o' w' :=
  ⟨h.os,h.tape,h.output,h.size,fun b hb _ => h.same b hb,fun b off x ⟨hx,hl⟩ => by
    have hb:=cell_lt hx
    refine ⟨?_,?_⟩
    · rw [World.cell?_of_block (w:=w) (h.same b hb).1]; exact hx
    · rw [(h.same b hb).2]; exact hl⟩
theorem Cap.grow {o w o' w' p v x} (h:Grow o w o' w') (hf:∀ b,o b ≠ none → b < w.heap.size) (hc:Cap o w p v x):Cap o' w' p v x:=by
  unfold Cap at *
  split
  · rename_i a n c
    intro hn
    obtain ⟨h0,h1,cs,T,h2,h3⟩:=hc hn
    have hb:=hf a.block (by rw [h1]; simp)
    exact ⟨h0,by rw [(h.same _ hb).2]; exact h1,cs,T,by rw [(h.same _ hb).1]; exact h2,h3⟩
  · trivial
theorem RelH.grow {o w o' w' sig heap} (h:Grow o w o' w') (hf:∀ b,o b ≠ none → b < w.heap.size) (hr:RelH o sig heap w):RelH o' sig heap w' where
  sigl:=hr.sigl
  obj id ob hid:=by
    obtain ⟨b,h1,h2,h3⟩:=hr.obj id ob hid
    have hb:=hf b (by rw [h2]; simp)
    refine ⟨b,h1,by rw [(h.same _ hb).2]; exact h2,?_⟩
    cases ob with
    | cells vs =>
      obtain ⟨cs,T,h4,h5,h6⟩:=h3
      exact ⟨cs,T,by rw [(h.same _ hb).1]; exact h4,h5,fun off ho => ⟨(h6 off ho).1.mono h.step.stab fun _ _ hh => hh,(h6 off ho).2.1.grow h hf,(h6 off ho).2.2⟩⟩
    | iter s pos => unfold ObjEnc at *; rw [(h.same _ hb).1]; exact h3
theorem Gl.grow {W0 o w o' w'} (g:Gl W0 o w) (h:Grow o w o' w'):Gl W0 o' w' :=
  ⟨Nat.le_trans g.size h.size,fun b hb => by
    obtain ⟨e1,e2⟩:=h.same b (Nat.lt_of_lt_of_le hb g.size)
    exact ⟨e1.trans (g.keep b hb).1,e2.trans (g.keep b hb).2⟩,h.fin⟩
theorem Rel.grow {W0 o sig st tm w o' w'} (hr:Rel W0 o sig st tm w) (h:Grow o w o' w'):Rel W0 o' sig st tm w' where
  gl:=hr.gl.grow h
  len:=hr.len
  slot j:=(hr.slot j).mono h.step.stab fun _ _ hh => hh
  cap j k:=(hr.cap j k).grow h hr.gl.fin
  hp:=hr.hp.grow h hr.gl.fin
theorem Grow.alloc {W0 o w} (g:Gl W0 o w) (ob:Obj):Grow o w o (w.alloc ob) :=
  ⟨rfl,rfl,rfl,by simp,fun b hb => ⟨Below.heap_alloc _ _ _ hb,rfl⟩,fun b hb => by have:=g.fin b hb; simp; omega⟩
theorem Grow.drew {W0 o w} (g:Gl W0 o w):Grow o w o w.drew :=
  ⟨rfl,rfl,rfl,Nat.le_refl _,fun _ _ => ⟨rfl,rfl⟩,g.fin⟩
theorem Grow.refl {W0 o w} (g:Gl W0 o w):Grow o w o w :=
  ⟨rfl,rfl,rfl,Nat.le_refl _,fun _ _ => ⟨rfl,rfl⟩,g.fin⟩
theorem Grow.trans {o w o1 w1 o2 w2} (h:Grow o w o1 w1) (g:Grow o1 w1 o2 w2):Grow o w o2 w2 :=
  ⟨g.os.trans h.os,g.tape.trans h.tape,g.output.trans h.output,Nat.le_trans h.size g.size,fun b hb => by
    obtain ⟨e1,e2⟩:=h.same b hb
    obtain ⟨e3,e4⟩:=g.same b (Nat.lt_of_lt_of_le hb h.size)
    exact ⟨e3.trans e1,e4.trans e2⟩,g.fin⟩
end Go.PS
end

section
namespace Go.PS
open Go.RowKit
structure TyOk (P:Program) (C:Ctx):Prop where
  int:∀ t k,(C.ty t).ty = .int k → P.underlying t = some (.int k)
  bool:∀ t,(C.ty t).ty = .bool → P.underlying t = some .bool
  str:∀ t,(C.ty t).ty = .str → P.underlying t = some .string
  slice:∀ t e,(C.ty t).ty = .slice e → P.underlying t = some (.slice e) ∧ (C.ty e).size ≠ 0
  struct:∀ t fs,(C.ty t).ty = .struct fs → ∃ F,P.underlying t = some (.struct F) ∧ F.toList.map (fun f => (f.offset,f.type)) = fs
  array:∀ t n e,(C.ty t).ty = .array n e → P.underlying t = some (.array n e) ∧ (C.ty e).size ≠ 0
  ptr:∀ t e,(C.ty t).ty = .ptr e → P.underlying t = some (.pointer e)
  iface:∀ t,(C.ty t).ty = .iface → ∃ ms,P.underlying t = some (.interface ms)
  func:∀ t,(C.ty t).ty = .func → ∃ a b c,P.underlying t = some (.func a b c)
  info:∀ t,(C.ty t).size ≠ 0 → ∃ i,P.info? t = some i ∧ i.size = (C.ty t).size ∧ i.bytes = (C.ty t).bytes
  agg:∀ t w,(C.ty t).size ≠ 0 → (isAgg t).run P w = .ok (!isScalar (C.ty t).ty) w
  zero:∀ t,(C.ty t).zero ≠ [] → ∃ i z,P.info? t = some i ∧ i.zero = some z ∧ i.size = (C.ty t).size ∧ ∀ o w,Enc o w (zeroDV (C.ty t)) z
  eq:∀ t,memN t C.eqs = true → P.eqGuardType P.depth t = false ∧ ∀ (a b:List DV) (r:Bool) (xs ys:List Value) (o:Own) (w:World),kindsB (C.ty t).zero a = true → eqCells a b = some r → EncL o w a xs → EncL o w b ys →
    (Op.equalIn 10000 t (.agg xs.toArray) (.agg ys.toArray)).run P w = .ok r w
  places:∀ t fs,(C.ty t).ty = .struct fs → (C.ty t).zero ≠ [] → ∃ F,P.underlying t = some (.struct F) ∧ F.toList.mapM (fun f => (P.info? f.type).map fun i => (f.offset,i.size)) = some (fs.map fun p => (p.1,(C.ty p.2).size))
  concrete:∀ t,(C.ty t).ty ≠ .iface → (C.ty t).ty ≠ .other → P.concrete t = true
  zeroSz:∀ t,(C.ty t).zero ≠ [] → (zeroDV (C.ty t)).cells.length = (C.ty t).size
  zeroC:∀ t,(C.ty t).zero ≠ [] → (zeroDV (C.ty t)).cells = (C.ty t).zero
section
variable {P:Program} {C:Ctx} {W0:World} {o:Own} {sig:List Nat} {st:St} {a:Act} {w:World} {R:Type}
theorem ofConst_enc (o:Own) (w:World) (sig:List Nat) (v:Value):PEnc o w sig (ofConst v) v:=by
  unfold ofConst
  split
  · exact .d (.int _ _)
  · exact .d (.bool _)
  · rename_i s
    by_cases h:Nat.ble s.data.toList.length 9223372036854775807 = true
    · rw [h]
      exact .d (.str s.data.toList (Nat.le_of_ble_eq_true h))
    · simp only [Bool.not_eq_true] at h
      rw [h]; exact .undef
  · exact .own (.slcNil _)
  · exact .d .nilp
  · exact .d .nilf
  · exact .d .nili
  · exact .undef
theorem ofConst_shape (v:Value):(∀ vs,ofConst v ≠ .tup vs) ∧ ((ofConst v).noOwn ∨ (ofConst v = .own 0 [] ∧ v = .slice none 0 0)):=by
  unfold ofConst
  split <;> first | exact ⟨by simp,.inl trivial⟩ | exact ⟨by simp,.inr ⟨rfl,rfl⟩⟩ | skip
  rename_i s
  cases Nat.ble s.data.toList.length 9223372036854775807 <;> exact ⟨by simp,.inl trivial⟩
theorem cap_nil (o:Own) (w:World) (j k sz:Nat) (vs:List DV):Cap o w (.slot j k) (cmpV (.own sz vs) k) (cmpX (.own sz vs) (.slice none 0 0) k):=by
  unfold cmpV cmpX
  split
  · trivial
  · split <;> trivial
theorem ofConst_cap (o:Own) (w:World) (v:Value) (j k:Nat):Cap o w (.slot j k) (cmpV (ofConst v) k) (cmpX (ofConst v) v k):=by
  obtain ⟨h1,h2⟩:=ofConst_shape v
  rcases h2 with h2 | ⟨h2,rfl⟩
  · exact cap_cmp_noOwn h2 h1 k
  · rw [h2]; exact cap_nil o w j k 0 []
theorem Rel.ev (h:Rel W0 o sig st a.tmps w) (x:Operand):PEnc o w sig (ev st x) (a.eval x):=by
  cases x with
  | tmp t => exact h.slot t
  | const v => exact ofConst_enc o w sig v
  | func f => exact .func rfl .nil
  | global g => exact .undef
def Does (o:Own) (w:World) (sig:List Nat) (x:Result Value) (v:PV):Prop :=
  ∃ y w',x = .ok y w' ∧ Grow o w o w' ∧ PEnc o w' sig v y ∧ ∀ j k,Cap o w' (.slot j k) (cmpV v k) (cmpX v y k)
theorem Does.same (g:Gl W0 o w) {y:Value} {v:PV} {x:Result Value} (hx:x = .ok y w) (hv:PEnc o w sig v y) (hn:v.noOwn) (ht:∀ vs,v ≠ .tup vs):Does o w sig x v :=
  ⟨y,w,hx,.refl g,hv,fun _ k => cap_cmp_noOwn hn ht k⟩
theorem Does.data (g:Gl W0 o w) {y:Value} {v:DV} {x:Result Value} (hx:x = .ok y w) (hv:Enc o w v y):Does o w sig x (.d v) :=
  Does.same g hx (.d hv) trivial (by simp)
theorem PEnc.int_inv {k n x} (h:PEnc o w sig (.d (.int k n)) x):x = .int k n:=by cases h with | d h => cases h; rfl
theorem PEnc.bool_inv {b x} (h:PEnc o w sig (.d (.bool b)) x):x = .bool b:=by cases h with | d h => cases h; rfl
theorem PEnc.str_inv {s x} (h:PEnc o w sig (.d (.str s)) x):x = .string ⟨s.toArray⟩ ∧ s.length ≤ 9223372036854775807:=by cases h with | d h => cases h with | str s h => exact ⟨rfl,h⟩
@[simp] theorem chk_some {b:Bool} {x:Option R} {r:R}:chk b x = some r ↔ b = true ∧ x = some r:=by cases b <;> simp [chk]
theorem str_toList (s:List UInt8):(⟨s.toArray⟩:ByteArray).toList = s:=by
  rw [ByteArray.toList_eq]
theorem lbeq (a b:List UInt8):(a == b) = decide (a = b):=by
  by_cases h:a = b <;> simp [h]
theorem bif_some {b:Bool} {x:Option R} {r:R}:(bif b then x else none) = some r ↔ b = true ∧ x = some r:=by cases b <;> simp
theorem binK_sound {op:BinOp} {t:TypeId} {ox oy:Operand} {x y:DV} {X Y:Value} (hC:TyOk P C) {k:DV → Option R} {r:R} (hx:Enc o w x X) (hy:Enc o w y Y) (h:binK C op t x y k = some r) :
    ∃ v,k v = some r ∧ ∃ Z,(do eqGuard op t ox oy X Y; binOp op t X Y:Sem Value).run P w = .ok Z w ∧ Enc o w v Z:=by
  unfold binK at h
  split at h
  · rename_i ka a kb b
    cases hx; cases hy
    have key:∀ {v:DV} {Z:Value},k v = some r → (binOp op t (.int ka a) (.int kb b)).run P w = .ok Z w → Enc o w v Z →
        ∃ v,k v = some r ∧ ∃ Z,(do eqGuard op t ox oy (.int ka a) (.int kb b); binOp op t (.int ka a) (.int kb b):Sem Value).run P w = .ok Z w ∧ Enc o w v Z:=by
      intro v Z h1 h2 h3
      refine ⟨v,h1,Z,?_,h3⟩
      have:(eqGuard op t ox oy (.int ka a) (.int kb b)).run P w = .ok () w:=by
        cases op <;> simp [eqGuard]
      simp [this,h2]
    cases op <;> simp only [chk_some,bif_some,decide_eq_true_eq,Bool.not_eq_true',decide_eq_false_iff_not,beq_iff_eq] at h
    case shl => exact key h.2 (by simp [binOp,Op.shift,Int.not_lt.2 h.1]) (.int _ _)
    case shr => exact key h.2 (by simp [binOp,Op.shift,Int.not_lt.2 h.1]) (.int _ _)
    all_goals (obtain ⟨rfl,h⟩:=h)
    case add => exact key h (by simp [binOp,Op.intArith]) (.int _ _)
    case sub => exact key h (by simp [binOp,Op.intArith]) (.int _ _)
    case mul => exact key h (by simp [binOp,Op.intArith]) (.int _ _)
    case quo => exact key h.2 (by simp [binOp,Op.intDiv,h.1]) (.int _ _)
    case rem => exact key h.2 (by simp [binOp,Op.intDiv,h.1]) (.int _ _)
    case and => exact key h (by simp [binOp,Op.intBits]) (.int _ _)
    case or => exact key h (by simp [binOp,Op.intBits]) (.int _ _)
    case xor => exact key h (by simp [binOp,Op.intBits]) (.int _ _)
    case eql => exact key h (by simp [binOp,Op.intCmp]; rfl) (.bool _)
    case neq => exact key h (by simp [binOp,Op.intCmp]; rfl) (.bool _)
    case lss => exact key h (by simp [binOp,Op.intCmp]) (.bool _)
    case leq => exact key h (by simp [binOp,Op.intCmp]) (.bool _)
    case gtr => exact key h (by simp [binOp,Op.intCmp]) (.bool _)
    case geq => exact key h (by simp [binOp,Op.intCmp]) (.bool _)
    all_goals exact absurd h (by simp)
  · rename_i a b
    cases hx with | str _ ha => cases hy with | str _ hb =>
    have hg:∀ A B,(eqGuard op t ox oy (.string A) (.string B)).run P w = .ok () w:=by intro A B; cases op <;> simp [eqGuard]
    cases op <;> simp only [chk_some,decide_eq_true_eq,strOp,reduceCtorEq] at h
    case add =>
      refine ⟨_,h.2,.string (⟨a.toArray⟩ ++ ⟨b.toArray⟩),?_,?_⟩
      · have h1:=h.1
        have:¬ ((9223372036854775807:Int) < (a.length:Int) + (b.length:Int)):=by omega
        simp [hg,binOp,Op.stringOp,ByteArray.size,this]
      · have:(⟨a.toArray⟩ ++ ⟨b.toArray⟩:ByteArray) = ⟨(a ++ b).toArray⟩:=by
          apply ByteArray.ext; simp [ByteArray.data_append]
        rw [this]; exact .str _ (by simpa using h.1)
    case eql => exact ⟨_,h,.bool (decide (a = b)),by simp only [Sem.run_bind,hg,Result.andThen_ok,binOp,Op.stringOp,str_toList,lbeq,Sem.run_pure],.bool _⟩
    case neq => exact ⟨_,h,.bool (!decide (a = b)),by simp only [Sem.run_bind,hg,Result.andThen_ok,binOp,Op.stringOp,str_toList,lbeq,Sem.run_pure],.bool _⟩
    case lss => exact ⟨_,h,.bool (Op.bytesLess a b),by simp only [Sem.run_bind,hg,Result.andThen_ok,binOp,Op.stringOp,str_toList,lbeq,Sem.run_pure],.bool _⟩
    case leq => exact ⟨_,h,.bool (Op.bytesLess a b || decide (a = b)),by simp only [Sem.run_bind,hg,Result.andThen_ok,binOp,Op.stringOp,str_toList,lbeq,Sem.run_pure],.bool _⟩
    case gtr => exact ⟨_,h,.bool (!(Op.bytesLess a b || decide (a = b))),by simp only [Sem.run_bind,hg,Result.andThen_ok,binOp,Op.stringOp,str_toList,lbeq,Sem.run_pure],.bool _⟩
    case geq => exact ⟨_,h,.bool (!Op.bytesLess a b),by simp only [Sem.run_bind,hg,Result.andThen_ok,binOp,Op.stringOp,str_toList,lbeq,Sem.run_pure],.bool _⟩
  · rename_i a b
    cases hx; cases hy
    have hg:(eqGuard op t ox oy (.bool a) (.bool b)).run P w = .ok () w:=by cases op <;> simp [eqGuard]
    have he:∀ (h:P.underlying t = some .bool),(Op.equal t (.bool a) (.bool b)).run P w = .ok (a == b) w:=fun h => run_equalIn_bool (P:=P) w 9999 t a b h
    split at h
    · rename_i ht
      exact ⟨_,h,.bool (a == b),by simp only [Sem.run_bind,hg,Result.andThen_ok,binOp,he (hC.bool t ht),Sem.run_pure],.bool _⟩
    · rename_i ht
      exact ⟨_,h,.bool (!(a == b)),by simp only [Sem.run_bind,hg,Result.andThen_ok,binOp,he (hC.bool t ht),Sem.run_pure],.bool _⟩
    · simp at h
  · rename_i a b
    cases hx with | agg _ xs hxs _ => cases hy with | agg _ ys hys _ =>
    rw [bif_some] at h
    obtain ⟨hm,h⟩:=h
    simp only [Bool.and_eq_true] at hm
    obtain ⟨hm,hkb⟩:=hm
    obtain ⟨hgd,heq⟩:=hC.eq t hm
    split at h
    · rename_i rr hr
      have he:=heq a b rr xs ys o w hkb hr hxs hys
      split at h
      · exact ⟨_,h,.bool rr,by simp only [Sem.run_bind,run_eqGuard_agg (P:=P) w _ t ox oy _ _ hgd,Result.andThen_ok,run_eql_struct,he],.bool _⟩
      · exact ⟨_,h,.bool (!rr),by simp only [Sem.run_bind,run_eqGuard_agg (P:=P) w _ t ox oy _ _ hgd,Result.andThen_ok,run_neq_struct,he],.bool _⟩
      · simp at h
    · simp at h
  · simp at h
end
end Go.PS
end

section
namespace Go.PS
open Go.RowKit
section
variable {P:Program} {C:Ctx} {W0:World} {o:Own} {sig:List Nat} {st:St} {a:Act} {w:World} {R:Type}
theorem unK_sound {op:UnOp} {x:DV} {X:Value} {k:DV → Option R} {r:R} (hx:Enc o w x X) (h:unK op x k = some r) :
    ∃ v,k v = some r ∧ ∃ Z,(Op.unary op X).run P w = .ok Z w ∧ Enc o w v Z:=by
  unfold unK at h
  split at h
  · cases hx; exact ⟨_,h,_,by simp [Op.unary,Op.intArith],.int _ _⟩
  · cases hx; exact ⟨_,h,_,by simp [Op.unary],.bool _⟩
  · simp at h
theorem run_convert_bytes_z (w:World) (src e:TypeId) (hs:P.underlying src = some (.slice e)) (he:P.underlying e = some (.int .u8)) (a:Addr) :
    ∀ dst,P.underlying dst = some .string → (convert src dst (.slice (some a) 0 0)).run P w = .ok (.string ByteArray.empty) w:=by
  intro dst hd
  have hl:(Go.loadCells a 0).run P w = .ok ([]:List Value).toArray w:=run_loadCells_list (P:=P) w a [] (fun j v hj => by simp at hj)
  rw [run_convert_bytes_string w src dst e _ 0 0 hs he hd,run_bytesToString w _ 0 0 [] hl]
  rfl
theorem u8s_enc {vs:List DV} {xs:List Value} (h:allU8 vs = true) (he:EncL o w vs xs):∃ ns:List Int,xs = ns.map (.int .u8) ∧ bytesOf vs = ns.map fun n => UInt8.ofNat n.toNat:=by
  induction vs generalizing xs with
  | nil => cases he; exact ⟨[],rfl,rfl⟩
  | cons v vs ih =>
    cases he with | cons hv ht =>
    unfold allU8 at h
    split at h
    · rename_i heq; simp at heq
    · rename_i n l heq
      simp at heq
      obtain ⟨rfl,rfl⟩:=heq
      obtain ⟨ns,rfl,h2⟩:=ih h ht
      cases hv
      exact ⟨n :: ns,rfl,by simp [bytesOf,h2]⟩
    · simp at h
theorem encode_le (n:Int):(Utf8.encode n).data.toList.length ≤ 9223372036854775807:=by
  unfold Utf8.encode
  dsimp only
  generalize (if Utf8.valid n = true then n.toNat else Utf8.runeError) = c
  by_cases h1:c < 0x80
  · simp [h1]
  · by_cases h2:c < 0x800
    · simp [h1,h2]
    · by_cases h3:c < 0x10000 <;> simp [h1,h2,h3]
theorem addr_add (b off n:Nat):(⟨b,off,none⟩:Addr).add n = ⟨b,off + n,none⟩:=by unfold Addr.add; split <;> simp_all
theorem bytes_encL (o:Own) (w:World) (s:List UInt8):EncL o w (bytesDV s) (s.map fun b => .int .u8 b.toNat):=by
  induction s with
  | nil => exact .nil
  | cons b s ih => exact .cons (.int _ _) ih
theorem convK_sound (hC:TyOk P C) (g:Gl W0 o w) {src dst:TypeId} {x:DV} {X:Value} {k:DV → Option R} {r:R} (hx:Enc o w x X) (h:convK C src dst x k = some r) :
    ∃ v,k v = some r ∧ Does o w sig ((convert src dst X).run P w) (.d v):=by
  unfold convK at h
  split at h
  · rename_i hs hd
    cases hx
    exact ⟨_,h,.data g (by simp [convert,run_underlying (hC.int _ _ hs),run_underlying (hC.int _ _ hd),Conv.intToInt]) (.int _ _)⟩
  · rename_i s hs hd
    cases hx with | str _ hl =>
    exact ⟨_,h,.data g (by simp [convert,run_underlying (hC.str _ hs),run_underlying (hC.str _ hd)]) (.str _ hl)⟩
  · rename_i k' n hs hd
    cases hx
    refine ⟨_,h,.data g (by simp [convert,run_underlying (hC.int _ _ hs),run_underlying (hC.str _ hd),Conv.intToString]; rfl) ?_⟩
    have:=Enc.str (o:=o) (w:=w) (Utf8.encode n).data.toList (encode_le n)
    simpa using this
  · rename_i e s hs hd
    cases hx with | str _ hl =>
    split at h
    · rename_i he
      refine ⟨_,h,?_⟩
      refine ⟨_,_,Lib.run_convert_string_bytes w src dst e ⟨s.toArray⟩ (hC.str _ hs) (hC.slice _ _ hd).1 (hC.int _ _ he),?_,?_,fun j k => cap_cmp_noOwn (v:=.d _) trivial (by simp) k⟩
      · exact ⟨rfl,rfl,rfl,by rw [Lib.bytesWorld_size]; omega,fun b hb => ⟨Lib.bytesWorld_at_old w e _ b hb,rfl⟩,fun b hb => by have:=g.fin b hb; rw [Lib.bytesWorld_size]; omega⟩
      · have hlen:(⟨s.toArray⟩:ByteArray).size = (bytesDV s).length:=by simp [bytesDV,ByteArray.size]
        rw [hlen]
        refine .d (.slc 1 (bytesDV s) w.heap.size 0 _ (s.map fun b => .int .u8 b.toNat) ?_ ?_ (bytes_encL _ _ s) ?_)
        · exact grownCap_ge w _ 0 e
        · have:=grownCap_le_maxLen w (bytesDV s).length 0 e (by simpa [bytesDV,maxLen] using hl); simpa [maxLen] using this
        · intro i x hi
          simp at hi
          obtain ⟨b,hb,rfl⟩:=hi
          refine ⟨rfl,?_⟩
          intro j y hj
          have hj0:j = 0:=by
            rcases Nat.eq_zero_or_pos j with h | h
            · exact h
            · obtain ⟨j,rfl⟩:∃ m,j = m + 1:=⟨j - 1,by omega⟩
              simp [Value.cells] at hj
          subst hj0
          simp [Value.cells] at hj
          subst hj
          refine ⟨?_,fun lo p hlo => ?_⟩
          · have hi' : i < (⟨s.toArray⟩:ByteArray).size:=by
              have:=(List.getElem?_eq_some_iff.1 hb).1; simpa [ByteArray.size] using this
            have:=Lib.bytesWorld_cell w e ⟨s.toArray⟩ i hi'
            simp only [Nat.zero_add,Nat.mul_one,Nat.add_zero]
            rw [this]
            simp [List.getD,hb]
          · have:=g.fin w.heap.size (by rw [hlo]; simp)
            omega
    · simp at h
  · rename_i e sz vs hs hd
    split at h
    · rename_i he
      simp only [chk_some] at h
      cases hx with
      | slcNil =>
        refine ⟨_,h.2,.data g (run_convert_bytes_nil (P:=P) w src e (hC.slice _ _ hs).1 (hC.int _ _ he) 0 0 dst (hC.str _ hd)) ?_⟩
        exact .str [] (by simp)
      | slcZ _ ad =>
        refine ⟨_,h.2,.data g (run_convert_bytes_z (P:=P) w src e (hC.slice _ _ hs).1 (hC.int _ _ he) ad dst (hC.str _ hd)) ?_⟩
        exact .str [] (by simp)
      | slc _ _ b off cap xs hl hm hxs hc =>
        obtain ⟨ns,rfl,h2⟩:=u8s_enc h.1 hxs
        have hlen:=hxs.length
        refine ⟨_,h.2,.data g (run_convert_bytes_arg (P:=P) w src e (hC.slice _ _ hs).1 (hC.int _ _ he) b off vs.length cap ns (by simpa using hlen.symm) ?_ dst (hC.str _ hd)) ?_⟩
        · intro i hi
          have hin:i < ns.length:=by simp at hlen; omega
          obtain ⟨h3,h4⟩:=hc i (.int .u8 ns[i]) (by simp [hin])
          have h5:=(h4 0 (.int .u8 ns[i]) (by simp [Value.cells])).1
          have h6:sz = 1:=by rw [← h3]; rfl
          subst h6
          simp only [Nat.mul_one,Nat.add_zero] at h5
          rw [h5]; simp [List.getD,hin]
        · rw [h2]
          have:strOfNums ns = ⟨(ns.map fun n => UInt8.ofNat n.toNat).toArray⟩:=rfl
          rw [this]
          exact .str _ (by simp at hlen ⊢; omega)
    · simp at h
  · simp at h
end
end Go.PS
end

section
namespace Go.PS
open Go.RowKit
section
variable {P:Program} {C:Ctx} {W0:World} {o:Own} {sig:List Nat} {st:St} {a:Act} {w:World} {R:Type}
theorem boundK_inv (hr:Rel W0 o sig st a.tmps w) {x:Option Operand} {d:Nat} {k:Int → Option R} {r:R} (h:boundK st x d k = some r) :
    ∃ n:Int,k n = some r ∧ ((x = none ∧ n = d) ∨ ∃ ox kk,x = some ox ∧ a.eval ox = .int kk n):=by
  unfold boundK at h
  split at h
  · exact ⟨d,h,.inl ⟨rfl,rfl⟩⟩
  · rename_i ox
    split at h
    · rename_i kk n he
      have:=hr.ev ox
      rw [he] at this
      exact ⟨n,h,.inr ⟨ox,kk,rfl,this.int_inv⟩⟩
    · simp at h
theorem run_sliceBounds (w:World) (isSlice:Bool) (len cap:Nat) (ρ:Operand → Value) (lo hi:Option Operand) (l h:Int)
    (h1:(lo = none ∧ l = (0:Nat)) ∨ ∃ ox kk,lo = some ox ∧ ρ ox = .int kk l) (h2:(hi = none ∧ h = len) ∨ ∃ ox kk,hi = some ox ∧ ρ ox = .int kk h)
    (hl:0 ≤ l) (hlh:l ≤ h) (hc:h ≤ len) (hlc:len ≤ cap) :
    (Instr.sliceBounds isSlice len cap (lo.map ρ) (hi.map ρ) none).run P w = .ok (l.toNat,h.toNat,cap) w:=by
  have e1:(Instr.sliceBound (.int .i64 0) 0 .sliceB).run P w = .ok 0 w:=by simp [Instr.sliceBound,asIntOf]
  rcases h1 with ⟨rfl,rfl⟩ | ⟨ox,kk,rfl,hx⟩ <;> rcases h2 with ⟨rfl,rfl⟩ | ⟨oy,ky,rfl,hy⟩
  · simp [Instr.sliceBounds]
  · have:0 ≤ h ∧ h ≤ (cap:Int):=by omega
    simp [Instr.sliceBounds,hy,Instr.sliceBound,asIntOf,this]
  · have:0 ≤ l ∧ l ≤ (len:Int):=by omega
    simp [Instr.sliceBounds,hx,Instr.sliceBound,asIntOf,this]
  · have h3:0 ≤ h ∧ h ≤ (cap:Int):=by omega
    have h5:((h.toNat:Nat):Int) = h:=Int.toNat_of_nonneg (by omega)
    have h4:0 ≤ l ∧ l ≤ ((h.toNat:Nat):Int):=by omega
    have h6:max h 0 = h:=by omega
    have h7:¬ h < l:=by omega
    simp [Instr.sliceBounds,hx,hy,Instr.sliceBound,asIntOf,h3,hl,h6,h7]
theorem extract_take (s:List UInt8) (l h:Nat):(⟨s.toArray⟩:ByteArray).extract l h = ⟨((s.take h).drop l).toArray⟩:=by
  apply ByteArray.ext
  simp [ByteArray.data_extract,List.extract_eq_drop_take,List.drop_take]
theorem EncL.slice {vs xs} (h:EncL o w vs xs) (l n:Nat):EncL o w ((vs.take n).drop l) ((xs.take n).drop l):=(h.take n).drop l
theorem Enc.slc_cut {sz vs x} (h:Enc o w (.slc sz vs) x):∃ ad cap,x = .slice ad vs.length cap ∧ vs.length ≤ cap ∧ cap ≤ 9223372036854775807 ∧
    ∀ l n m:Nat,l ≤ n → n ≤ vs.length → n ≤ m → m ≤ cap → Enc o w (.slc sz ((vs.take n).drop l)) (.slice (if m = l then ad else ad.map (·.add (l * sz))) (n - l) (m - l)):=by
  cases h with
  | slcNil =>
    refine ⟨none,0,rfl,by simp,by omega,?_⟩
    intro l n m h1 h2 h3 h4
    have:n = 0:=by simpa using h2
    have:l = 0:=by omega
    have:m = 0:=by omega
    subst_vars
    exact .slcNil sz
  | slcZ _ a =>
    refine ⟨some a,0,rfl,by simp,by omega,?_⟩
    intro l n m h1 h2 h3 h4
    have:n = 0:=by simpa using h2
    have:l = 0:=by omega
    have:m = 0:=by omega
    subst_vars
    exact .slcZ sz a
  | slc _ _ b off cap xs hl hm hx hc =>
    refine ⟨_,cap,rfl,hl,hm,?_⟩
    intro l n m h1 h2 h3 h4
    have hlen:((vs.take n).drop l).length = n - l:=by simp; omega
    have key:∀ off',(m = l ∨ off' = off + l * sz) → Enc o w (.slc sz ((vs.take n).drop l)) (.slice (some ⟨b,off',none⟩) (n - l) (m - l)):=by
      intro off' ho
      rw [← hlen]
      refine .slc sz _ b off' (m - l) ((xs.take n).drop l) (by rw [hlen]; omega) (by omega) (hx.slice l n) ?_
      intro i x hi
      rw [List.getElem?_drop,List.getElem?_take] at hi
      split at hi
      · rename_i hlt
        obtain ⟨h5,h6⟩:=hc _ _ hi
        refine ⟨h5,fun j y hj => ?_⟩
        rcases ho with ho | ho
        · omega
        · have:=h6 j y hj
          rw [ho]
          have e:off + l * sz + i * sz + j = off + (l + i) * sz + j:=by rw [Nat.add_mul]; omega
          rw [e]; exact this
      · simp at hi
    by_cases hml:m = l
    · rw [if_pos hml]; exact key off (.inl hml)
    · rw [if_neg hml]
      simp only [Option.map_some,addr_add]
      exact key _ (.inr rfl)
theorem sliceK_sound (hC:TyOk P C) (hr:Rel W0 o sig st a.tmps w) {t:TypeId} {v:PV} {X:Value} {lo hi:Option Operand} {k:PV → Option R} {r:R} (hx:PEnc o w sig v X)
    (h:sliceK C t st v lo hi k = some r) :
    ∃ v',k v' = some r ∧ Does o w sig ((Instr.sliceAt t X (lo.map a.eval) (hi.map a.eval) none).run P w) v':=by
  unfold sliceK at h
  split at h
  · rename_i s ht hd
    obtain ⟨l,h,h1⟩:=boundK_inv hr h
    obtain ⟨n,h,h2⟩:=boundK_inv hr h
    simp only [chk_some,decide_eq_true_eq] at h
    obtain ⟨h3,h4,h5,h6⟩:=h
    have he:=hx.data hd
    cases he with | str _ hl =>
    refine ⟨_,h6,.data hr.gl ?_ (.str ((s.take n.toNat).drop l.toNat) (by simp; omega))⟩
    have hb:=run_sliceBounds (P:=P) w false s.length s.length a.eval lo hi l n h1 h2 h3 h4 h5 (Nat.le_refl _)
    have hsz:(⟨s.toArray⟩:ByteArray).size = s.length:=rfl
    simp [Instr.sliceAt,run_underlying (hC.str _ ht),Instr.slice,hsz,hb,extract_take]
  · rename_i e sz s ht hd
    obtain ⟨l,h,h1⟩:=boundK_inv hr h
    obtain ⟨n,h,h2⟩:=boundK_inv hr h
    rw [bif_some] at h
    obtain ⟨hsz,h⟩:=h
    have hsz:=Nat.eq_of_beq_eq_true hsz
    simp only [chk_some,decide_eq_true_eq] at h
    obtain ⟨h3,h4,h5,h6⟩:=h
    have he:=hx.data hd
    obtain ⟨ad,cap,rfl,hc1,hc2,hcut⟩:=he.slc_cut
    have hcut:=hcut l.toNat n.toNat cap (by omega) (by omega) (by omega) (Nat.le_refl _)
    refine ⟨_,h6,.data hr.gl ?_ hcut⟩
    have hb:=run_sliceBounds (P:=P) w true s.length cap a.eval lo hi l n h1 h2 h3 h4 h5 hc1
    obtain ⟨hu,hlt⟩:=hC.slice _ _ ht
    obtain ⟨i,hi',hs',_⟩:=hC.info e hlt
    simp [Instr.sliceAt,run_underlying hu,Instr.slice,hb,sizeOf,typeInfo,hi',hs',hsz]
  · simp at h
theorem run_sliceBounds3 (w:World) (len cap:Nat) (ρ:Operand → Value) (lo:Option Operand) (ox om:Operand) (k1 k2:IntKind) (l h:Int)
    (h1:(lo = none ∧ l = (0:Nat)) ∨ ∃ ox kk,lo = some ox ∧ ρ ox = .int kk l) (hx:ρ ox = .int k1 h) (hm:ρ om = .int k2 h)
    (hl:0 ≤ l) (hlh:l ≤ h) (hc:h ≤ len) (hlc:len ≤ cap) :
    (Instr.sliceBounds true len cap (lo.map ρ) (some (ρ ox)) (some (ρ om))).run P w = .ok (l.toNat,h.toNat,h.toNat) w:=by
  have h3:0 ≤ h ∧ h ≤ (cap:Int):=by omega
  have h6:max h 0 = h:=by omega
  have h7:¬ h < l:=by omega
  have h8:0 ≤ h:=by omega
  rcases h1 with ⟨rfl,rfl⟩ | ⟨oy,kk,rfl,hy⟩
  · simp [Instr.sliceBounds,hx,hm,Instr.sliceBound,asIntOf,h3,h6,h8]
  · simp [Instr.sliceBounds,hx,hm,hy,Instr.sliceBound,asIntOf,h3,h6,h7,h8,hl]
theorem gt_fields {fs:List (Nat × TypeId)} {f:Nat} {x:Nat × TypeId} (h:gt none (fs.map some) f = some x):fs[f]? = some x:=by
  rw [gt_some] at h; exact h
theorem fieldOff_real (hC:TyOk P C) {t f off ft} (h:fieldOff C t f = some (off,ft)):∃ F fd,P.underlying t = some (.struct F) ∧ F[f]? = some fd ∧ fd.offset = off ∧ fd.type = ft:=by
  unfold fieldOff at h
  split at h
  · rename_i fs ht
    obtain ⟨F,hu,hF⟩:=hC.struct t fs ht
    have:=gt_fields h
    rw [← hF] at this
    simp at this
    obtain ⟨fd,h1,h2,h3⟩:=this
    exact ⟨F,fd,hu,h1,h2,h3⟩
  · simp at h
theorem scalars_drop {vs:List DV} (h:∀ v ∈ vs,v.scalar = true) (n:Nat):∀ v ∈ vs.drop n,v.scalar = true:=fun v hv => h v (List.mem_of_mem_drop hv)
theorem scalars_take {vs:List DV} (h:∀ v ∈ vs,v.scalar = true) (n:Nat):∀ v ∈ vs.take n,v.scalar = true:=fun v hv => h v (List.mem_of_mem_take hv)
theorem part_enc (hC:TyOk P C) {ft:TypeId} (hsz:(C.ty ft).size ≠ 0) {vs:List DV} {xs:List Value} (hx:EncL o w vs xs) (hs:∀ v ∈ vs,v.scalar = true) (off:Nat) (hle:off + (C.ty ft).size ≤ vs.length)
    {v:DV} (h:ofCells (C.ty ft) (dr vs off) = some v):∃ y,(part ft xs.toArray off).run P w = .ok y w ∧ Enc o w v y:=by
  obtain ⟨i,hi,hs1,_⟩:=hC.info ft hsz
  have hlen:=hx.length
  unfold ofCells at h
  rw [dr_eq] at h
  cases hsc:isScalar (C.ty ft).ty
  · rw [hsc] at h
    simp only [cond_false,Option.some.injEq] at h
    subst h
    rw [tk_eq]
    refine ⟨_,?_,.agg _ ((xs.drop off).take (C.ty ft).size) ((hx.drop off).take _) (scalars_take (scalars_drop hs _) _)⟩
    simp [part,hC.agg ft w hsz,hsc,sizeOf,typeInfo,hi,hs1,List.extract_eq_drop_take]
  · rw [hsc] at h
    simp only [cond_true] at h
    have hlt:off < vs.length:=by omega
    obtain ⟨y,hy,he⟩:=hx.get (List.getElem?_eq_getElem hlt)
    rw [List.drop_eq_getElem_cons hlt] at h
    simp only [Option.some.injEq] at h
    subst h
    exact ⟨y,by simp [part,hC.agg ft w hsz,hsc,hy],he⟩
end
end Go.PS
end

section
namespace Go.PS
open Go.RowKit
section
variable {P:Program} {C:Ctx} {W0:World} {o:Own} {sig:List Nat} {st:St} {a:Act} {w:World} {R:Type}
inductive Parts (o:Own) (w:World):List (Nat × DV) → List (Nat × Value) → Prop
  | nil:Parts o w [] []
  | cons {i v x l r} (h:Enc o w v x) (t:Parts o w l r):Parts o w ((i,v) :: l) ((i,x) :: r)
theorem partsOf_enc (hr:Rel W0 o sig st a.tmps w):∀ {l:List (Nat × Operand)} {ps},partsOf st l = some ps → Parts o w ps (l.map fun p => (p.1,a.eval p.2))
  | [],ps,h => by simp [partsOf] at h; subst h; exact .nil
  | (i,x) :: l,ps,h => by
    unfold partsOf at h
    split at h
    · rename_i v hv
      split at h
      · rename_i rr hrr
        simp at h; subst h
        exact .cons ((hr.ev x).data hv) (partsOf_enc hr hrr)
      · simp at h
    · simp at h
theorem zipfold' : ∀ (ys A B D:List Value) (n off:Nat),A.length = off + n → B.length = ys.length →
    ((ys.zipIdx n).foldl (fun (cs:Array Value) p => cs.setIfInBounds (off + p.2) p.1) (A ++ B ++ D).toArray) = (A ++ ys ++ D).toArray
  | [],A,B,D,n,off,h,hb => by
    have:B = []:=List.eq_nil_of_length_eq_zero (by simpa using hb)
    subst this; simp
  | y :: ys,A,[],D,n,off,h,hb => by simp at hb
  | y :: ys,A,b :: B,D,n,off,h,hb => by
    simp only [List.zipIdx_cons,List.foldl_cons]
    have h1:(A ++ b :: B ++ D).toArray.setIfInBounds (off + n) y = ((A ++ [y]) ++ B ++ D).toArray:=by
      simp [← h,List.set_append]
    rw [h1,zipfold' ys (A ++ [y]) B D (n + 1) off (by simp; omega) (by simpa using hb)]
    simp
theorem zipfold (cs:Array Value) (ys:List Value) (off:Nat) (h:off + ys.length ≤ cs.size) :
    (ys.zipIdx.foldl (fun (cs:Array Value) p => cs.setIfInBounds (off + p.2) p.1) cs) = (cs.toList.take off ++ ys ++ cs.toList.drop (off + ys.length)).toArray:=by
  have e:cs = (cs.toList.take off ++ (cs.toList.drop off).take ys.length ++ cs.toList.drop (off + ys.length)).toArray:=by
    apply Array.ext'
    simp only [List.toList_toArray]
    rw [List.append_assoc,← List.drop_drop,List.take_append_drop,List.take_append_drop]
  have:=zipfold' ys (cs.toList.take off) ((cs.toList.drop off).take ys.length) (cs.toList.drop (off + ys.length)) 0 off (by simp; omega) (by simp; omega)
  rw [← e] at this
  exact this
theorem fill_enc (pl pl' : Nat → Option (Nat × Nat)) (hpl:∀ i x,pl i = some x → pl' i = some x):∀ {ps:List (Nat × DV)} {qs:List (Nat × Value)} {zs cs:List DV} {Z:List Value},Parts o w ps qs → EncL o w zs Z → (∀ v ∈ zs,v.scalar = true) →
    fill pl zs ps = some cs → ∃ Y:List Value,Instr.fill pl' Z.toArray qs = some Y.toArray ∧ EncL o w cs Y ∧ (∀ v ∈ cs,v.scalar = true)
  | [],_,zs,cs,Z,.nil,hz,hs,h => by
    simp [fill] at h; subst h
    exact ⟨Z,by simp [Instr.fill],hz,hs⟩
  | (i,v) :: ps,_,zs,cs,Z,.cons (x:=x) hv ht,hz,hs,h => by
    unfold fill at h
    split at h
    · simp at h
    · rename_i off size hp
      rw [bif_some] at h
      obtain ⟨hc,h⟩:=h
      simp only [Bool.and_eq_true] at hc
      have h1:v.cells.length = size:=Nat.eq_of_beq_eq_true hc.1
      have h2:off + size ≤ zs.length:=Nat.le_of_ble_eq_true hc.2
      have hx:=hv.cells
      have hxl:=hv.cells_size
      have hzl:=hz.length
      rw [tk_eq,dr_eq] at h
      obtain ⟨Y,hY,hYe,hYs⟩:=fill_enc pl pl' hpl (Z:=Z.take off ++ x.cells.toList ++ Z.drop (off + size)) ht ((hz.take off).append hx |>.append (hz.drop _)) (by
        intro u hu
        simp only [List.mem_append] at hu
        rcases hu with (hu | hu) | hu
        · exact hs u (List.mem_of_mem_take hu)
        · exact hv.scalars u hu
        · exact hs u (List.mem_of_mem_drop hu)) h
      refine ⟨Y,?_,hYe,hYs⟩
      unfold Instr.fill
      rw [hpl i _ hp]
      dsimp only
      rw [if_neg (by simp [hxl,h1]; omega)]
      rw [← hY]
      congr 1
      have:=zipfold Z.toArray x.cells.toList off (by simp; omega)
      simp only [Array.length_toList,hxl,h1] at this
      rw [← this]
      rw [← Array.foldl_toList]
      simp [Array.toList_zipIdx]
end
end Go.PS
end

section
namespace Go.PS
open Go.RowKit
section
variable {P:Program} {C:Ctx} {W0:World} {o:Own} {sig:List Nat} {st:St} {a:Act} {w:World} {R:Type}
def flat (xs:List Value):List Value:=xs.flatMap fun x => x.cells.toList
theorem flat_cons (x:Value) (xs:List Value):flat (x :: xs) = x.cells.toList ++ flat xs:=rfl
theorem flat_append (xs ys:List Value):flat (xs ++ ys) = flat xs ++ flat ys:=by simp [flat]
def Sized (sz:Nat) (xs:List Value):Prop:=∀ x ∈ xs,x.cells.size = sz
theorem flat_length {sz:Nat}:∀ {xs:List Value},Sized sz xs → (flat xs).length = xs.length * sz
  | [],_ => by simp [flat]
  | x :: xs,h => by
    rw [flat_cons,List.length_append,flat_length (fun y hy => h y (by simp [hy])),Array.length_toList,h x (by simp),List.length_cons,Nat.add_mul]; omega
theorem flat_get {sz:Nat}:∀ {xs:List Value} {i:Nat} {x:Value},Sized sz xs → xs[i]? = some x → ∀ (j:Nat) y,x.cells[j]? = some y → (flat xs)[i * sz + j]? = some y
  | [],_,_,_,h,_,_,_ => by simp at h
  | x' :: xs,0,x,hs,h,j,y,hj => by
    simp at h; subst h
    rw [flat_cons,Nat.zero_mul,Nat.zero_add,List.getElem?_append_left (by
      have:=(Array.getElem?_eq_some_iff.1 hj).1; simpa using this)]
    simpa using hj
  | x' :: xs,i + 1,x,hs,h,j,y,hj => by
    have h0:=hs x' (by simp)
    rw [flat_cons,List.getElem?_append_right (by simp [h0,Nat.add_mul]; omega)]
    have e:(i + 1) * sz + j - x'.cells.toList.length = i * sz + j:=by simp [h0,Nat.add_mul]; omega
    rw [e]
    exact flat_get (fun y hy => hs y (by simp [hy])) (by simpa using h) j y hj
theorem take_app {α:Type}:∀ {A B:List α} {n m:Nat},A.length = n → (A ++ B).take (n + m) = A ++ B.take m
  | [],B,n,m,h => by simp at h; subst h; simp
  | x :: A,B,n,m,h => by
    obtain ⟨n,rfl⟩:∃ k,n = k + 1:=⟨A.length,by simpa using h.symm⟩
    rw [show n + 1 + m = (n + m) + 1 by omega,List.cons_append,List.take_succ_cons,take_app (by simpa using h)]; rfl
theorem drop_app {α:Type}:∀ {A B:List α} {n m:Nat},A.length = n → (A ++ B).drop (n + m) = B.drop m
  | [],B,n,m,h => by simp at h; subst h; simp
  | x :: A,B,n,m,h => by
    obtain ⟨n,rfl⟩:∃ k,n = k + 1:=⟨A.length,by simpa using h.symm⟩
    rw [show n + 1 + m = (n + m) + 1 by omega,List.cons_append,List.drop_succ_cons,drop_app (by simpa using h)]
theorem flat_set {sz:Nat}:∀ {xs:List Value} {i:Nat} {x:Value},Sized sz xs → i < xs.length → x.cells.size = sz →
    flat (xs.set i x) = (flat xs).take (i * sz) ++ x.cells.toList ++ (flat xs).drop (i * sz + sz)
  | [],i,x,_,h,_ => by simp at h
  | x' :: xs,0,x,hs,_,hx => by
    have h0:x'.cells.toList.length = sz:=by simpa using hs x' (by simp)
    have:=drop_app (A:=x'.cells.toList) (B:=flat xs) (m:=0) h0
    simp only [Nat.add_zero,List.drop_zero] at this
    simp only [List.set_cons_zero,flat_cons,Nat.zero_mul,List.take_zero,List.nil_append,Nat.zero_add,this]
  | x' :: xs,i + 1,x,hs,h,hx => by
    have h0:x'.cells.toList.length = sz:=by simpa using hs x' (by simp)
    have ih:=flat_set (xs:=xs) (i:=i) (x:=x) (fun y hy => hs y (by simp [hy])) (by simpa using h) hx
    have e1:(i + 1) * sz = sz + i * sz:=by rw [Nat.add_mul]; omega
    simp only [List.set_cons_succ,flat_cons,ih,e1]
    rw [take_app h0,show sz + i * sz + sz = sz + (i * sz + sz) by omega,drop_app h0]
    simp
theorem Sized.set {sz:Nat} {xs:List Value} (h:Sized sz xs) {x:Value} (hx:x.cells.size = sz) (i:Nat):Sized sz (xs.set i x):=by
  intro y hy
  rcases List.mem_or_eq_of_mem_set hy with h1 | rfl
  · exact h y h1
  · exact hx
theorem zeros_flat (z:Value) (sz n:Nat) (hz:z.cells.size = sz) (h0:0 < sz) :
    ((Array.range (n * sz)).map (fun i => z.cells[i % z.cells.size]!)).toList = flat (List.replicate n z):=by
  induction n with
  | zero => simp [flat]
  | succ n ih =>
    have e:flat (List.replicate (n + 1) z) = flat (List.replicate n z) ++ z.cells.toList:=by
      rw [List.replicate_succ',flat_append]; simp [flat]
    rw [e,← ih]
    simp only [Array.toList_map,Array.toList_range]
    rw [show (n + 1) * sz = n * sz + sz by rw [Nat.add_mul]; omega,List.range_add,List.map_append]
    congr 1
    apply List.ext_getElem?
    intro j
    simp only [List.getElem?_map]
    by_cases hj:j < sz
    · have hj' : j < z.cells.size:=by omega
      simp [hj,hz,hj',Nat.mod_eq_of_lt hj,Array.getElem!_eq_getD]
    · rw [List.getElem?_eq_none (by simp; omega),List.getElem?_eq_none (by simp; omega)]; rfl
theorem rep_eq {α:Type} (n:Nat) (x:α):rep n x = List.replicate n x:=by
  induction n with
  | zero => rfl
  | succ n ih => simp [rep,List.replicate_succ,ih]
theorem EncL.replicate {v:DV} {x:Value} (h:Enc o w v x) (n:Nat):EncL o w (List.replicate n v) (List.replicate n x):=by
  induction n with
  | zero => exact .nil
  | succ n ih => exact .cons h ih
theorem Enc.row {es:List DV} {xs:List Value} {sz b cap:Nat} {Y:Array Value} {T:TypeId} {fr:Nat × Nat} (hx:EncL o w es xs) (hs:Sized sz xs) (hb:w.heap[b]? = some (.cells Y T fr))
    (hf:∃ rest,Y.toList = flat xs ++ rest) (hcap:es.length ≤ cap) (hm:cap ≤ 9223372036854775807) (ho:∀ lo p,o b = some (lo,p) → es.length * sz ≤ lo) :
    Enc o w (.slc sz es) (.slice (some ⟨b,0,none⟩) es.length cap):=by
  refine .slc sz es b 0 cap xs hcap hm hx ?_
  intro i x hi
  have h1:=hs x (List.mem_of_getElem? hi)
  refine ⟨h1,fun j y hj => ?_⟩
  have h2:=flat_get hs hi j y hj
  obtain ⟨rest,hf⟩:=hf
  have hjl:=(Array.getElem?_eq_some_iff.1 hj).1
  have hil:=(List.getElem?_eq_some_iff.1 hi).1
  have hlen:=hx.length
  have hbound:i * sz + j < es.length * sz:=by
    have:(i + 1) * sz ≤ es.length * sz:=Nat.mul_le_mul_right _ (by omega)
    rw [Nat.add_mul] at this; omega
  refine ⟨?_,fun lo p hlo => by have:=ho lo p hlo; omega⟩
  have h3:Y[i * sz + j]? = some y:=by
    rw [← Array.getElem?_toList,hf,List.getElem?_append_left (by have:=(List.getElem?_eq_some_iff.1 h2).1; exact this)]; exact h2
  simp only [World.cell?,hb,Nat.zero_add]
  simpa using h3
theorem fillS_enc {sz len:Nat}:∀ {ps:List (Nat × DV)} {qs:List (Nat × Value)} {es:List DV} {xs:List Value},Parts o w ps qs → EncL o w es xs → Sized sz xs → es.length = len →
    partsFit sz len ps = true → ∃ xs',Instr.fill (fun i => some (i * sz,sz)) (flat xs).toArray qs = some (flat xs').toArray ∧ EncL o w (fillS es ps) xs' ∧ Sized sz xs' ∧ (fillS es ps).length = len
  | [],_,es,xs,.nil,hx,hs,hl,_ => ⟨xs,by simp [Instr.fill],hx,hs,hl⟩
  | (i,v) :: ps,_,es,xs,.cons (x:=x) hv ht,hx,hs,hl,h => by
    simp only [partsFit,Bool.and_eq_true] at h
    have h1:v.cells.length = sz:=Nat.eq_of_beq_eq_true h.1.1
    have h2:i + 1 ≤ len:=Nat.le_of_ble_eq_true h.1.2
    have hxs:=hv.cells_size
    have hlen:=hx.length
    obtain ⟨xs',h3,h4,h5,h6⟩:=fillS_enc (es:=es.set i v) (xs:=xs.set i x) ht (hx.set hv i) (hs.set (by rw [hxs,h1]) i) (by simpa using hl) h.2
    refine ⟨xs',?_,?_,h5,?_⟩
    · unfold Instr.fill
      dsimp only
      have hfl:=flat_length hs
      have hle:i * sz + sz ≤ (flat xs).length:=by
        rw [hfl,← hlen,hl]
        have:(i + 1) * sz ≤ len * sz:=Nat.mul_le_mul_right _ h2
        rw [Nat.add_mul] at this; omega
      rw [if_neg (by simp [hxs,h1]; omega)]
      rw [← h3]
      congr 1
      have:=zipfold (flat xs).toArray x.cells.toList (i * sz) (by simp [hxs,h1]; omega)
      simp only [Array.length_toList,hxs,h1] at this
      rw [flat_set hs (by omega) (by rw [hxs,h1])]
      rw [show (List.take (i * sz) (flat xs) ++ x.cells.toList ++ List.drop (i * sz + sz) (flat xs)).toArray = _ from this.symm,← Array.foldl_toList]
      simp [Array.toList_zipIdx]
    · simpa [fillS,up_eq] using h4
    · simpa [fillS,up_eq] using h6
end
end Go.PS
end

section
namespace Go.PS
open Go.RowKit
section
variable {P:Program} {C:Ctx} {W0:World} {o:Own} {sig:List Nat} {st:St} {a:Act} {w:World} {R:Type}
def DoesOp (P:Program) (o:Own) (w:World) (sig:List Nat) (a:Act) (op:Op) (ty:TypeId) (v:PV):Prop :=
  ∃ y w',(∀ dst pos after guard,(execOp a.eval ⟨dst,op,ty,pos,after,guard⟩).run P w = .ok (.value y) w') ∧ Grow o w o w' ∧ PEnc o w' sig v y ∧
    ∀ j k,Cap o w' (.slot j k) (cmpV v k) (cmpX v y k)
theorem DoesOp.of {op:Op} {ty:TypeId} {v:PV} (S:Sem Value) (he:∀ dst pos after guard,execOp a.eval ⟨dst,op,ty,pos,after,guard⟩ = (do let x ← S; pure (Next.value x)))
    (h:Does o w sig (S.run P w) v):DoesOp P o w sig a op ty v:=by
  obtain ⟨y,w',h1,h2,h3,h4⟩:=h
  exact ⟨y,w',fun dst pos after guard => by rw [he]; simp [h1],h2,h3,h4⟩
theorem DoesOp.same (g:Gl W0 o w) {op:Op} {ty:TypeId} {v:PV} {y:Value} (he:∀ dst pos after guard,(execOp a.eval ⟨dst,op,ty,pos,after,guard⟩).run P w = .ok (.value y) w)
    (hv:PEnc o w sig v y) (hn:v.noOwn) (ht:∀ vs,v ≠ .tup vs):DoesOp P o w sig a op ty v :=
  ⟨y,w,he,.refl g,hv,fun _ k => cap_cmp_noOwn hn ht k⟩
theorem plain_tup {v:PV} (h:∀ vs,v ≠ .tup vs):∀ vs,v.plain ≠ .tup vs:=by
  intro vs; cases v <;> simp [PV.plain]; exact fun e => h _ (by rw [e])
@[simp] theorem cnd_some {b:Bool} {x y:Option R} {r:R}:cnd b x y = some r ↔ (b = true ∧ x = some r) ∨ (b = false ∧ y = some r):=by cases b <;> simp [cnd]
theorem bif_none_some {b:Bool} {x:Option R} {r:R}:(bif b then none else x) = some r ↔ b = false ∧ x = some r:=by cases b <;> simp
theorem nilTest_inv {op:BinOp} {t:Bool} {k:PV → Option R} {r:R} (h:nilTest op t k = some r):∃ u,k (.d (.bool u)) = some r ∧ ((op = .eql ∧ u = t) ∨ (op = .neq ∧ u = !t)):=by
  unfold nilTest at h
  split at h
  · exact ⟨t,h,.inl ⟨rfl,rfl⟩⟩
  · exact ⟨!t,h,.inr ⟨rfl,rfl⟩⟩
  · simp at h
theorem run_nil_iface {t:TypeId} {ms} (hu:P.underlying t = some (.interface ms)) (w:World) (op:BinOp) (x:Operand) (X:Value) (u t' : Bool)
    (hX:(X = .nilIface ∧ t' = true) ∨ (∃ s y,X = .iface s y ∧ t' = false)) (ho:(op = .eql ∧ u = t') ∨ (op = .neq ∧ u = !t')) :
    (do eqGuard op t x (.const .nilIface) X .nilIface; binOp op t X .nilIface:Sem Value).run P w = .ok (.bool u) w:=by
  have h0:(Op.equal t X .nilIface).run P w = .ok t' w:=by
    have:∀ d,(Op.equalIn (d + 1) t X .nilIface).run P w = .ok t' w:=by
      intro d
      rcases hX with ⟨rfl,rfl⟩ | ⟨s,y,rfl,rfl⟩ <;> simp [Op.equalIn,run_underlying hu]
    exact this 9999
  have hg:(eqGuard op t x (.const .nilIface) X .nilIface).run P w = .ok () w:=by
    rcases ho with ⟨rfl,_⟩ | ⟨rfl,_⟩ <;> rcases hX with ⟨rfl,_⟩ | ⟨s,y,rfl,_⟩ <;> simp [eqGuard]
  rcases ho with ⟨rfl,rfl⟩ | ⟨rfl,rfl⟩ <;> rcases hX with ⟨rfl,rfl⟩ | ⟨s,y,rfl,rfl⟩ <;>
    simp only [Sem.run_bind,hg,Result.andThen_ok,binOp,h0,Sem.run_pure]
theorem run_nil_ptr {t e:TypeId} (hu:P.underlying t = some (.pointer e)) (w:World) (op:BinOp) (x y:Operand) (X:Option Addr) (u t' : Bool)
    (hX:t' = X.isNone) (ho:(op = .eql ∧ u = t') ∨ (op = .neq ∧ u = !t')) :
    (do eqGuard op t x y (.pointer X) (.pointer none); binOp op t (.pointer X) (.pointer none):Sem Value).run P w = .ok (.bool u) w:=by
  have h0:(Op.equal t (.pointer X) (.pointer none)).run P w = .ok t' w:=by
    have:∀ d,(Op.equalIn (d + 1) t (.pointer X) (.pointer none)).run P w = .ok t' w:=by
      intro d
      subst hX
      cases X <;> simp [Op.equalIn,run_underlying hu]
    exact this 9999
  have hg:(eqGuard op t x y (.pointer X) (.pointer none)).run P w = .ok () w:=by
    rcases ho with ⟨rfl,_⟩ | ⟨rfl,_⟩ <;> simp [eqGuard]
  rcases ho with ⟨rfl,rfl⟩ | ⟨rfl,rfl⟩ <;>
    simp only [Sem.run_bind,hg,Result.andThen_ok,binOp,h0,Sem.run_pure]
theorem run_nil_slice {t e:TypeId} (hu:P.underlying t = some (.slice e)) (w:World) (op:BinOp) (x y:Operand) (A:Addr) (n c:Nat) (u:Bool)
    (ho:(op = .eql ∧ u = false) ∨ (op = .neq ∧ u = !false)) :
    (do eqGuard op t x y (.slice (some A) n c) (.slice none 0 0); binOp op t (.slice (some A) n c) (.slice none 0 0):Sem Value).run P w = .ok (.bool u) w:=by
  have h0:(Op.equal t (.slice (some A) n c) (.slice none 0 0)).run P w = .ok false w:=by
    have:∀ d,(Op.equalIn (d + 1) t (.slice (some A) n c) (.slice none 0 0)).run P w = .ok false w:=by
      intro d
      simp [Op.equalIn,run_underlying hu]
    exact this 9999
  have hg:(eqGuard op t x y (.slice (some A) n c) (.slice none 0 0)).run P w = .ok () w:=by
    rcases ho with ⟨rfl,_⟩ | ⟨rfl,_⟩ <;> simp [eqGuard]
  rcases ho with ⟨rfl,rfl⟩ | ⟨rfl,rfl⟩ <;>
    simp only [Sem.run_bind,hg,Result.andThen_ok,binOp,h0,Sem.run_pure]
theorem PEnc.ptr_inv {id off X} (h:PEnc o w sig (.ptr id off) X):∃ b,sig[id]? = some b ∧ X = .pointer (some ⟨b,off,none⟩):=by
  cases h with | ptr hs => exact ⟨_,hs,rfl⟩
theorem PEnc.ro_inv {vs X} (h:PEnc o w sig (.ro vs) X):∃ b off ys,X = .pointer (some ⟨b,off,none⟩) ∧ EncL o w vs ys ∧ (∀ (j:Nat) y,ys[j]? = some y → Stab o w b (off + j) y) ∧ (∀ v ∈ vs,v.scalar = true):=by
  cases h with | ro ys hx hc hs => exact ⟨_,_,ys,rfl,hx,hc,hs⟩
theorem PEncL.app {vs us:List PV} {xs ys:List Value} (h:PEncL o w sig vs xs) (g:PEncL o w sig us ys):PEncL o w sig (vs ++ us) (xs ++ ys):=by
  match h with
  | .nil => exact g
  | .cons hh t => exact .cons hh (t.app g)
theorem PEnc.func_inv {f cs X} (h:PEnc o w sig (.func f cs) X):∃ fs xs:List Value,X = .func (.func f) fs.toArray xs.toArray ∧ ∀ as ys,PEncL o w sig as ys → PEncL o w sig (bargs cs as) (fs ++ ys ++ xs):=by
  cases h with
  | func hn h =>
    refine ⟨[],_,rfl,fun as ys ha => ?_⟩
    have:bargs cs as = as ++ cs:=by
      cases cs with
      | nil => rfl
      | cons c l => cases c <;> first | rfl | simp [notSkp] at hn
    rw [this]; exact ha.app h
  | bnd h =>
    refine ⟨_,[],rfl,fun as ys ha => ?_⟩
    simp only [List.append_nil]
    exact h.app ha
theorem PEnc.func_inv0 {f cs X} (hn:notSkp cs = true) (h:PEnc o w sig (.func f cs) X):∃ xs,X = .func (.func f) #[] xs.toArray ∧ PEncL o w sig cs xs:=by
  cases h with
  | func _ h => exact ⟨_,rfl,h⟩
  | bnd h => simp [notSkp] at hn
theorem PEnc.d_inv {v X} (h:PEnc o w sig (.d v) X):Enc o w v X:=by cases h with | d h => exact h
theorem Rel.evx (hr:Rel W0 o sig st a.tmps w) (x:Operand) {v:PV} (he:PS.ev st x = v):∃ X,a.eval x = X ∧ PEnc o w sig v X:=⟨_,rfl,he ▸ hr.ev x⟩
theorem Enc.slc_inv {sz vs X} (h:Enc o w (.slc sz vs) X):(vs = [] ∧ ∃ ad,X = .slice ad 0 0) ∨ ∃ b off cap xs,X = .slice (some ⟨b,off,none⟩) vs.length cap ∧ vs.length ≤ cap ∧ cap ≤ 9223372036854775807 ∧ EncL o w vs xs ∧
    ∀ (i:Nat) x,xs[i]? = some x → x.cells.size = sz ∧ ∀ (j:Nat) y,x.cells[j]? = some y → Stab o w b (off + i * sz + j) y:=by
  cases h with
  | slcNil => exact .inl ⟨rfl,_,rfl⟩
  | slcZ => exact .inl ⟨rfl,_,rfl⟩
  | slc _ _ b off cap xs hl hm hx hc => exact .inr ⟨b,off,cap,xs,rfl,hl,hm,hx,hc⟩
theorem Enc.str_inv {s X} (h:Enc o w (.str s) X):X = .string ⟨s.toArray⟩ ∧ s.length ≤ 9223372036854775807:=by cases h with | str _ h => exact ⟨rfl,h⟩
theorem views_enc (l:List DV) (i:Nat) {zs:List DV} {xs:List Value} (h:EncL o w (gt .nili l i).cells xs) (hf:fits zs (gt .nili l i).cells = true) :
    EncL o w (views zs l i 0) xs ∧ ∀ v ∈ views zs l i 0,v.scalar = true:=by
  have key:∀ (zs cs:List DV) (xs:List Value) (j:Nat),EncL o w cs xs → fits zs cs = true → (∀ m,m < cs.length → gt .nili (gt .nili l i).cells (j + m) = gt .nili cs m) →
      EncL o w (views zs l i j) xs ∧ ∀ v ∈ views zs l i j,v.scalar = true:=by
    intro zs
    induction zs with
    | nil =>
      intro cs xs j h hf _
      cases cs with
      | nil => cases h; exact ⟨.nil,by simp [views]⟩
      | cons c cs => simp [fits] at hf
    | cons z zs ih =>
      intro cs xs j h hf hj
      cases cs with
      | nil => simp [fits] at hf
      | cons c cs =>
        cases h with | cons hh t =>
        rename_i x0 xs0
        simp only [fits,Bool.and_eq_true] at hf
        obtain ⟨i1,i2⟩:=ih cs _ (j + 1) t hf.2 (fun m hm => by
          have:=hj (m + 1) (by simpa using hm)
          rw [show j + 1 + m = j + (m + 1) by omega,this]; rfl)
        have h0:=hj 0 (by simp)
        rw [Nat.add_zero] at h0
        have h0:gt .nili (gt .nili l i).cells j = c:=h0
        have hone:Enc o w (view l i j z) x0 ∧ (view l i j z).scalar = true:=by
          have hf1:=hf.1
          cases z <;> cases c <;> simp [fits1] at hf1 <;> simp only [view,atI,atS,atB,atL,h0]
          · subst hf1; exact ⟨hh,rfl⟩
          · exact ⟨hh,rfl⟩
          · exact ⟨hh,rfl⟩
          · subst hf1; exact ⟨hh,rfl⟩
          · subst hf1; cases hh; exact ⟨.slcNil _,rfl⟩
        refine ⟨.cons hone.1 i1,fun v hv => ?_⟩
        simp only [views,List.mem_cons] at hv
        rcases hv with rfl | hv
        · exact hone.2
        · exact i2 v hv
  exact key zs _ xs 0 h hf (fun m _ => by rw [Nat.zero_add])
theorem evs_enc (hr:Rel W0 o sig st a.tmps w):∀ l:List Operand,PEncL o w sig (evs st l) (l.map a.eval)
  | [] => .nil
  | x :: l => .cons (hr.ev x).plain (evs_enc hr l)
set_option maxHeartbeats 1600000 in
theorem pureK_sound (hC:TyOk P C) (hr:Rel W0 o sig st a.tmps w) {op:Op} (ty:TypeId) {k:PV → Option R} {r:R} (h:pureK C op st k = some r) (hmv:∀ x vs,(op = .move x ∨ op = .assign x) → ev st x ≠ .tup vs) (hpk:∀ c x y vs,op = .pick c x y → ev st x ≠ .tup vs ∧ ev st y ≠ .tup vs) :
    ∃ v,k v = some r ∧ DoesOp P o w sig a op ty v:=by
  cases op with
  | move x =>
    simp only [pureK] at h
    exact ⟨_,h,.same hr.gl (y:=a.eval x) (fun _ _ _ _ => by simp [execOp]) (hr.ev x).plain (PV.plain_noOwn _) (plain_tup fun vs => hmv x vs (.inl rfl))⟩
  | assign x =>
    simp only [pureK] at h
    exact ⟨_,h,.same hr.gl (y:=a.eval x) (fun _ _ _ _ => by simp [execOp]) (hr.ev x).plain (PV.plain_noOwn _) (plain_tup fun vs => hmv x vs (.inr rfl))⟩
  | pick c x y =>
    simp only [pureK] at h
    split at h
    · rename_i t ht
      have hc:=hr.ev c
      rw [ht] at hc
      have hc:=hc.bool_inv
      rw [cnd_some] at h
      rcases h with ⟨rfl,h⟩ | ⟨rfl,h⟩
      · exact ⟨_,h,.same hr.gl (y:=a.eval x) (fun _ _ _ _ => by simp [execOp,hc,asBool]) (hr.ev x).plain (PV.plain_noOwn _) (plain_tup fun vs => (hpk c x y vs rfl).1)⟩
      · exact ⟨_,h,.same hr.gl (y:=a.eval y) (fun _ _ _ _ => by simp [execOp,hc,asBool]) (hr.ev y).plain (PV.plain_noOwn _) (plain_tup fun vs => (hpk c x y vs rfl).2)⟩
    · simp at h
  | build t parts =>
    simp only [pureK] at h
    rw [bif_none_some] at h
    obtain ⟨hz,h⟩:=h
    have hz:(C.ty t).zero ≠ []:=by intro e; rw [e] at hz; simp at hz
    obtain ⟨i,z,hi,hiz,his,hze⟩:=hC.zero t hz
    have hz0:=hC.zeroC t hz
    have hze':=(hze o w).cells
    rw [hz0] at hze'
    have hzs:=(hze o w).scalars
    rw [hz0] at hzs
    split at h
    · rename_i fs ht
      split at h
      · rename_i ps hps
        split at h
        · rename_i cs hcs
          obtain ⟨F,hu,hpl⟩:=hC.places t fs ht hz
          have hp:=partsOf_enc hr hps
          obtain ⟨Y,hY,hYe,hYs⟩:=fill_enc (place fs C) ((fs.map fun p => (p.1,(C.ty p.2).size)).toArray[·]?) (by
            intro i x hx
            unfold place at hx
            split at hx
            · rename_i off ft hg
              have:=gt_fields hg
              simp at hx; subst hx
              simp [this]
            · simp at hx) hp hze' hzs hcs
          refine ⟨_,h,?_⟩
          have hb:P.built t (parts.map fun p => (p.1,a.eval p.2)).toList = some Y.toArray:=by
            simp only [Program.built,hi,hu,hiz,hpl,Array.toList_map]
            rw [← hY]
          refine .of (Instr.build t (parts.map fun p => (p.1,a.eval p.2))) (fun _ _ _ _ => by simp [execOp]) (.data hr.gl (run_build w t _ _ hb) (.agg cs Y hYe hYs))
        · simp at h
      · simp at h
    · rename_i n e ht
      split at h
      · rename_i ps hps
        split at h
        · rename_i cs hcs
          obtain ⟨hu,hsz⟩:=hC.array t n e ht
          obtain ⟨ie,hie,hies,_⟩:=hC.info e hsz
          have hp:=partsOf_enc hr hps
          obtain ⟨Y,hY,hYe,hYs⟩:=fill_enc _ (fun i => some (i * ie.size,ie.size)) (by
            intro i x hx
            rw [hies]
            cases hb:Nat.ble (i + 1) n <;> rw [hb] at hx <;> simp at hx
            simp [hx]) hp hze' hzs hcs
          refine ⟨_,h,?_⟩
          have hb:P.built t (parts.map fun p => (p.1,a.eval p.2)).toList = some Y.toArray:=by
            simp only [Program.built,hi,hu,hiz,hie,Array.toList_map]
            rw [← hY]
          refine .of (Instr.build t (parts.map fun p => (p.1,a.eval p.2))) (fun _ _ _ _ => by simp [execOp]) (.data hr.gl (run_build w t _ _ hb) (.agg cs Y hYe hYs))
        · simp at h
      · simp at h
    · simp at h
  | nilCheck x =>
    simp only [pureK] at h
    split at h
    · rename_i id off he
      obtain ⟨X,hX,hx⟩:=hr.evx x he
      obtain ⟨b,hb,rfl⟩:=hx.ptr_inv
      exact ⟨_,h,.same hr.gl (fun _ _ _ _ => by simp [execOp,hX]) hx trivial (by simp)⟩
    · rename_i vs he
      obtain ⟨X,hX,hx⟩:=hr.evx x he
      obtain ⟨b,off,ys,rfl,_⟩:=hx.ro_inv
      exact ⟨_,h,.same hr.gl (fun _ _ _ _ => by simp [execOp,hX]) hx trivial (by simp)⟩
    · rename_i f cs he
      obtain ⟨X,hX,hx⟩:=hr.evx x he
      obtain ⟨fs,xs,rfl,_⟩:=hx.func_inv
      exact ⟨_,h,.same hr.gl (fun _ _ _ _ => by simp [execOp,hX]) hx trivial (by simp)⟩
    · simp at h
  | buildSlice t len parts =>
    simp only [pureK] at h
    split at h
    · rename_i e ht
      split at h
      · rename_i ps hps
        rw [bif_none_some] at h
        obtain ⟨hz,h⟩:=h
        rw [bif_some,bif_some] at h
        obtain ⟨hfit,hle,h⟩:=h
        have hle:=Nat.le_of_ble_eq_true hle
        have hz:(C.ty e).zero ≠ []:=by intro e'; rw [e'] at hz; simp at hz
        obtain ⟨hu,hsz⟩:=hC.slice t e ht
        obtain ⟨i,z,hi,hiz,his,hze⟩:=hC.zero e hz
        have hzsz:=hC.zeroSz e hz
        have hp:=partsOf_enc hr hps
        have hzc:=(hze o w).cells_size
        rw [hzsz] at hzc
        obtain ⟨xs',h3,h4,h5,h6⟩:=fillS_enc (sz:=(C.ty e).size) (len:=len) (es:=rep len (zeroDV (C.ty e))) (xs:=List.replicate len z) hp (by rw [rep_eq]; exact EncL.replicate (hze o w) len) (by intro y hy; rw [(List.mem_replicate.1 hy).2]; exact hzc) (by rw [rep_eq]; simp) hfit
        refine ⟨_,h,?_⟩
        have hg:=Grow.alloc hr.gl (.cells (flat xs').toArray e)
        have hrow:(w.alloc (.cells (flat xs').toArray e)).heap[w.heap.size]? = some (.cells (flat xs').toArray e (0,0)):=by
          show (w.heap.push _)[w.heap.size]? = _
          simp
        refine .of (Instr.buildSlice t len (parts.map fun p => (p.1,a.eval p.2))) (fun _ _ _ _ => by simp [execOp]) ⟨.slice (some ⟨w.heap.size,0,none⟩) len len,w.alloc (.cells (flat xs').toArray e),?_,hg,?_,?_⟩
        · have hcells:(if len * i.size = 0 then (#[]:Array Value) else z.cells) = if len * i.size = 0 then #[] else z.cells:=rfl
          have h24:¬ 16777216 < len * i.size:=by rw [his]; omega
          have hzero:(Array.range (len * i.size)).map (fun j => z.cells[j % z.cells.size]!) = (flat (List.replicate len z)).toArray:=by
            apply Array.ext'
            rw [his]; exact zeros_flat z _ len hzc (by omega)
          rw [← his] at h3
          by_cases h0:len * i.size = 0
          · have hl0:len = 0:=by
              rcases Nat.mul_eq_zero.1 h0 with h | h
              · exact h
              · rw [his] at h; exact absurd h hsz
            subst hl0
            have hps0:ps = []:=by
              cases ps with
              | nil => rfl
              | cons p ps => obtain ⟨q,v⟩:=p; simp [partsFit,Nat.ble] at hfit
            subst hps0
            have hpe:parts = #[]:=by
              generalize hq:List.map (fun p => (p.1,a.eval p.2)) parts.toList = Q at hp
              cases hp
              simpa using hq
            subst hpe
            have hx0:xs' = []:=by
              simp [rep,fillS] at h4
              cases h4; rfl
            subst hx0
            simp [Instr.buildSlice,run_underlying hu,sizeOf,typeInfo,hi,Instr.fill,newRow,flat]
            have e0:(Array.range 0).map (fun _ => (default:Value)) = #[]:=by apply Array.ext'; simp
            rw [e0]
          · simp [Instr.buildSlice,run_underlying hu,sizeOf,typeInfo,zeroValue,hi,hiz,h24,h0,hzero,h3,newRow]
        · refine .own ?_
          have:=Enc.row (o:=o) (w:=w.alloc (.cells (flat xs').toArray e)) (b:=w.heap.size) (cap:=len) (h4.mono hg.step.stab) h5 hrow ⟨[],by simp⟩ (by omega) (by
            have:len ≤ len * (C.ty e).size:=Nat.le_mul_of_pos_right _ (by omega)
            omega) (fun lo p hlo => by have:=hr.gl.fin w.heap.size (by rw [hlo]; simp); omega)
          rw [h6] at this
          exact this
        · intro j k
          unfold cmpV cmpX
          split
          · rename_i heq; simp at heq
          · split
            · intro hlt; exact absurd hlt (Nat.lt_irrefl _)
            · trivial
      · simp at h
    · simp at h
  | binOp op t x y yt =>
    unfold pureK at h
    split at h
    all_goals first | (rename_i heq; simp at heq; done) | (simp at h; done) | skip
    · rename_i heq
      simp only [Op.binOp.injEq] at heq
      obtain ⟨rfl,rfl,rfl,rfl,rfl⟩:=heq
      split at h
      · rename_i ht
        obtain ⟨ms,hu⟩:=hC.iface _ ht
        split at h
        · rename_i he
          obtain ⟨X,hX,hx⟩:=hr.evx x he
          have hx:X = .nilIface:=by cases hx.d_inv; rfl
          subst hx
          obtain ⟨u,h1,h2⟩:=nilTest_inv h
          exact ⟨_,h1,.of _ (fun _ _ _ _ => by simp only [execOp,hX]; rfl) (.data hr.gl (run_nil_iface hu w op x _ u true (.inl ⟨rfl,rfl⟩) h2) (.bool u))⟩
        · rename_i s v he
          obtain ⟨X,hX,hx⟩:=hr.evx x he
          obtain ⟨y,rfl⟩:∃ y,X = .iface s y:=by cases hx.d_inv; exact ⟨_,rfl⟩
          obtain ⟨u,h1,h2⟩:=nilTest_inv h
          exact ⟨_,h1,.of _ (fun _ _ _ _ => by simp only [execOp,hX]; rfl) (.data hr.gl (run_nil_iface hu w op x _ u false (.inr ⟨_,_,rfl,rfl⟩) h2) (.bool u))⟩
        · rename_i s he
          obtain ⟨X,hX,hx⟩:=hr.evx x he
          obtain ⟨y,rfl⟩:∃ y,X = .iface s y:=by cases hx.d_inv; exact ⟨_,rfl⟩
          obtain ⟨u,h1,h2⟩:=nilTest_inv h
          exact ⟨_,h1,.of _ (fun _ _ _ _ => by simp only [execOp,hX]; rfl) (.data hr.gl (run_nil_iface hu w op x _ u false (.inr ⟨_,_,rfl,rfl⟩) h2) (.bool u))⟩
        · simp at h
      · simp at h
    · rename_i heq
      simp only [Op.binOp.injEq] at heq
      obtain ⟨rfl,rfl,rfl,rfl,rfl⟩:=heq
      split at h
      · rename_i e ht
        have hu:=hC.ptr _ _ ht
        split at h
        · rename_i he
          obtain ⟨X,hX,hx⟩:=hr.evx x he
          have hx:X = .pointer none:=by cases hx.d_inv; rfl
          subst hx
          obtain ⟨u,h1,h2⟩:=nilTest_inv h
          exact ⟨_,h1,.of _ (fun _ _ _ _ => by simp only [execOp,hX]; rfl) (.data hr.gl (run_nil_ptr hu w op x _ none u true rfl h2) (.bool u))⟩
        · rename_i id oo he
          obtain ⟨X,hX,hx⟩:=hr.evx x he
          obtain ⟨b,hb,rfl⟩:=hx.ptr_inv
          obtain ⟨u,h1,h2⟩:=nilTest_inv h
          exact ⟨_,h1,.of _ (fun _ _ _ _ => by simp only [execOp,hX]; rfl) (.data hr.gl (run_nil_ptr hu w op x _ (some _) u false rfl h2) (.bool u))⟩
        · rename_i vs he
          obtain ⟨X,hX,hx⟩:=hr.evx x he
          obtain ⟨b,off,ys,rfl,_⟩:=hx.ro_inv
          obtain ⟨u,h1,h2⟩:=nilTest_inv h
          exact ⟨_,h1,.of _ (fun _ _ _ _ => by simp only [execOp,hX]; rfl) (.data hr.gl (run_nil_ptr hu w op x _ (some _) u false rfl h2) (.bool u))⟩
        · simp at h
      · simp at h
    · rename_i heq
      simp only [Op.binOp.injEq] at heq
      obtain ⟨rfl,rfl,rfl,rfl,rfl⟩:=heq
      split at h
      · rename_i e ht
        obtain ⟨hu,_⟩:=hC.slice _ _ ht
        split at h
        · rename_i sz vs hva
          simp only [chk_some,decide_eq_true_eq] at h
          obtain ⟨hlen,h⟩:=h
          obtain ⟨X,hX,hx⟩:∃ X,a.eval x = X ∧ Enc o w (.slc sz vs) X:=⟨_,rfl,(hr.ev x).data hva⟩
          obtain ⟨u,h1,h2⟩:=nilTest_inv h
          obtain ⟨A,n,c,rfl⟩:∃ A n c,X = .slice (some A) n c:=by
            cases hx with
            | slcNil => simp at hlen
            | slcZ => simp at hlen
            | slc vs b off cap xs _ _ _ _ => exact ⟨_,_,_,rfl⟩
          exact ⟨_,h1,.of _ (fun _ _ _ _ => by simp only [execOp,hX]; rfl) (.data hr.gl (run_nil_slice hu w op x _ A n c u h2) (.bool u))⟩
        · simp at h
      · simp at h
    · rename_i heq
      simp only [Op.binOp.injEq] at heq
      obtain ⟨rfl,rfl,rfl,rfl,rfl⟩:=heq
      split at h
      · rename_i va vb hva hvb
        obtain ⟨v,h1,Z,h2,h3⟩:=binK_sound (P:=P) (ox:=x) (oy:=y) hC ((hr.ev x).data hva) ((hr.ev y).data hvb) h
        exact ⟨_,h1,.of (do eqGuard op t x y (a.eval x) (a.eval y); binOp op t (a.eval x) (a.eval y)) (fun _ _ _ _ => by simp [execOp]) (.data hr.gl h2 h3)⟩
      · simp at h
  | unOp op t x =>
    simp only [pureK] at h
    split at h
    · rename_i v he
      obtain ⟨X,hX,hx⟩:=hr.evx x he
      obtain ⟨v',h1,Z,h2,h3⟩:=unK_sound (P:=P) hx.d_inv h
      exact ⟨_,h1,.of (Op.unary op X) (fun _ _ _ _ => by simp [execOp,hX]) (.data hr.gl h2 h3)⟩
    · simp at h
  | convert s d x =>
    simp only [pureK] at h
    split at h
    · rename_i v he
      obtain ⟨v',h1,h2⟩:=convK_sound (P:=P) (sig:=sig) hC hr.gl ((hr.ev x).data he) h
      exact ⟨_,h1,.of (convert s d (a.eval x)) (fun _ _ _ _ => by simp [execOp]) h2⟩
    · simp at h
  | makeInterface t x =>
    simp only [pureK] at h
    split at h
    · simp at h
    · simp at h
    · rename_i hn1 hn2
      split at h
      · rename_i v he
        exact ⟨_,h,.of (Instr.makeInterface t (a.eval x)) (fun _ _ _ _ => by simp [execOp]) (.data hr.gl (run_makeInterface w t _ (hC.concrete t hn1 hn2)) (.iface t v _ ((hr.ev x).data he)))⟩
      · simp at h
  | makeFunc fn first cap =>
    cases fn with
    | func f =>
      simp only [pureK] at h
      cases hb:Nat.beq first.size 0 with
      | true =>
        rw [hb] at h
        simp only [cond_true] at h
        rw [bif_some] at h
        obtain ⟨hn,h⟩:=h
        have h0:first = #[]:=Array.size_eq_zero_iff.1 (Nat.eq_of_beq_eq_true hb)
        subst h0
        refine ⟨_,h,.same hr.gl (y:=.func (.func f) #[] (cap.map a.eval)) (fun _ _ _ _ => by simp [execOp,Instr.makeFunc]) ?_ trivial (by simp)⟩
        have:=PEnc.func (f:=f) hn (evs_enc hr cap.toList)
        have e:(List.map a.eval cap.toList).toArray = cap.map a.eval:=by apply Array.ext'; simp
        rwa [e] at this
      | false =>
        rw [hb] at h
        simp only [cond_false] at h
        rw [bif_some] at h
        obtain ⟨h0,h⟩:=h
        have h0:cap = #[]:=Array.size_eq_zero_iff.1 (Nat.eq_of_beq_eq_true h0)
        subst h0
        refine ⟨_,h,.same hr.gl (y:=.func (.func f) (first.map a.eval) #[]) (fun _ _ _ _ => by simp [execOp,Instr.makeFunc]) ?_ trivial (by simp)⟩
        have:=PEnc.bnd (f:=f) (evs_enc hr first.toList)
        have e:(List.map a.eval first.toList).toArray = first.map a.eval:=by apply Array.ext'; simp
        rwa [e] at this
    | _ => simp [pureK] at h
  | slice t x lo hi mx =>
    simp only [pureK] at h
    split at h
    · obtain ⟨v',h1,h2⟩:=sliceK_sound hC hr (hr.ev x) h
      exact ⟨_,h1,.of (Instr.sliceAt t (a.eval x) (lo.map a.eval) (hi.map a.eval) none) (fun _ _ _ _ => by simp [execOp]) h2⟩
    · rename_i m
      split at h
      · rename_i hh
        split at h
        · rename_i ka na kb nb sz s hma hmb hd
          simp only [chk_some,decide_eq_true_eq] at h
          obtain ⟨rfl,h⟩:=h
          unfold sliceK at h
          split at h
          · rename_i hd2; simp [PV.data] at hd2
          · rename_i e sz' s' ht hd2
            simp only [PV.data,Option.some.injEq,DV.slc.injEq] at hd2
            obtain ⟨rfl,rfl⟩:=hd2
            obtain ⟨l,h,h1⟩:=boundK_inv hr h
            obtain ⟨n,h,h2⟩:=boundK_inv hr h
            rw [bif_some] at h
            obtain ⟨hsz,h⟩:=h
            have hsz:=Nat.eq_of_beq_eq_true hsz
            simp only [chk_some,decide_eq_true_eq] at h
            obtain ⟨h3,h4,h5,h6⟩:=h
            obtain ⟨Xm,hXm,hxm⟩:=hr.evx m hma
            obtain ⟨Xh,hXh,hxh⟩:=hr.evx hh hmb
            have hxm:=hxm.int_inv
            have hxh:=hxh.int_inv
            subst hxm; subst hxh
            have hn:n = na:=by
              rcases h2 with ⟨h2,_⟩ | ⟨ox,kk,h2,h7⟩
              · simp at h2
              · simp at h2; subst h2; rw [hXh] at h7; simp at h7; exact h7.2.symm
            subst hn
            have he:=(hr.ev x).data hd
            obtain ⟨ad,cap,hX,hc1,hc2,hcut⟩:=he.slc_cut
            have hcut:=hcut l.toNat n.toNat n.toNat (by omega) (by omega) (Nat.le_refl _) (by omega)
            obtain ⟨hu,hne⟩:=hC.slice _ _ ht
            obtain ⟨i,hi',hs',_⟩:=hC.info e hne
            have hb:=run_sliceBounds3 (P:=P) w s.length cap a.eval lo hh m kb ka l n h1 hXh hXm h3 h4 h5 hc1
            refine ⟨_,h6,.of (Instr.sliceAt t (a.eval x) (lo.map a.eval) (some (a.eval hh)) (some (a.eval m))) (fun _ _ _ _ => by simp [execOp]) (.data hr.gl ?_ hcut)⟩
            simp [Instr.sliceAt,run_underlying hu,Instr.slice,hX,hb,sizeOf,typeInfo,hi',hs',hsz]
          · simp at h
        · simp at h
      · simp at h
  | fieldAddr t x f =>
    simp only [pureK] at h
    split at h
    · rename_i off ft hf
      rw [bif_none_some] at h
      obtain ⟨hz,h⟩:=h
      have hz:(C.ty ft).size ≠ 0:=by intro e; rw [e] at hz; simp at hz
      obtain ⟨F,fd,hu,hF,ho,hft⟩:=fieldOff_real hC hf
      obtain ⟨i,hi,his,_⟩:=hC.info ft hz
      have hne:¬ i.size = 0:=by rw [his]; exact hz
      have key:∀ (b oo:Nat),(Instr.fieldAt t (.pointer (some ⟨b,oo,none⟩)) f).run P w = .ok (.pointer (some ⟨b,oo + off,none⟩)) w:=by
        intro b oo
        simp [Instr.fieldAt,run_underlying hu,hF,Instr.sureAddr,fieldPlace,sizeOf,typeInfo,hft,hi,hne,ho,addr_add]
      split at h
      · rename_i id oo he
        obtain ⟨X,hX,hx⟩:=hr.evx x he
        obtain ⟨b,hb,rfl⟩:=hx.ptr_inv
        exact ⟨_,h,.of (Instr.fieldAt t (.pointer (some ⟨b,oo,none⟩)) f) (fun _ _ _ _ => by simp [execOp,hX]) (.same hr.gl (key b oo) (.ptr hb) trivial (by simp))⟩
      · rename_i vs he
        obtain ⟨X,hX,hx⟩:=hr.evx x he
        obtain ⟨b,oo,ys,rfl,h1,h2,h3⟩:=hx.ro_inv
        refine ⟨_,h,.of (Instr.fieldAt t (.pointer (some ⟨b,oo,none⟩)) f) (fun _ _ _ _ => by simp [execOp,hX]) (.same hr.gl (key b oo) ?_ trivial (by simp))⟩
        rw [dr_eq]
        refine .ro (ys.drop off) (h1.drop off) (fun j y hj => ?_) (scalars_drop h3 off)
        rw [List.getElem?_drop] at hj
        have:=h2 _ y hj
        rwa [← Nat.add_assoc] at this
      · simp at h
    · simp at h
  | field t x f =>
    simp only [pureK] at h
    split at h
    · rename_i off ft hf
      rw [bif_none_some] at h
      obtain ⟨hz,h⟩:=h
      have hz:(C.ty ft).size ≠ 0:=by intro e; rw [e] at hz; simp at hz
      obtain ⟨F,fd,hu,hF,ho,hft⟩:=fieldOff_real hC hf
      split at h
      · rename_i vs he
        rw [bif_some] at h
        obtain ⟨hle,h⟩:=h
        split at h
        · rename_i v hv
          obtain ⟨X,hX,hx⟩:=hr.evx x he
          cases hx.d_inv with | agg _ xs hxs hs =>
          obtain ⟨y,h1,h2⟩:=part_enc (P:=P) hC hz hxs hs off (Nat.le_of_ble_eq_true hle) hv
          refine ⟨_,h,.of (Instr.field t (.agg xs.toArray) f) (fun _ _ _ _ => by simp [execOp,hX]) (.data hr.gl ?_ h2)⟩
          simp [Instr.field,run_underlying hu,hF,asAgg,ho,hft,h1]
        · simp at h
      · simp at h
    · simp at h
  | indexAddr t x i =>
    simp only [pureK] at h
    split at h
    · rename_i e ht
      split at h
      · rename_i sz vs kk n hd hi
        rw [bif_some] at h
        obtain ⟨hsz,h⟩:=h
        have hsz:=Nat.eq_of_beq_eq_true hsz
        simp only [chk_some,decide_eq_true_eq,nth] at h
        obtain ⟨h0,hlt0,hfit,h⟩:=h
        · have hv:vs[n.toNat]? = some (gt .nili vs n.toNat):=by rw [gt_eq,List.getElem?_eq_getElem hlt0]; rfl
          obtain ⟨hu,hne⟩:=hC.slice t e ht
          obtain ⟨ie,hie,his,_⟩:=hC.info e hne
          obtain ⟨I,hI,hin⟩:=hr.evx i hi
          have hin:=hin.int_inv
          subst hin
          have hx:=(hr.ev x).data hd
          have hlt:=(List.getElem?_eq_some_iff.1 hv).1
          rcases hx.slc_inv with ⟨rfl,_⟩ | ⟨b,off,cap,xs,hX,hl,hm,hxs,hc⟩
          · simp at hlt
          · obtain ⟨y,hy,hye⟩:=hxs.get hv
            obtain ⟨hc1,hc2⟩:=hc _ y hy
            refine ⟨_,h,.of (Instr.indexAt t (a.eval x) (.int kk n)) (fun _ _ _ _ => by simp [execOp,hI]) (.same hr.gl (y:=.pointer (some ⟨b,off + n.toNat * sz,none⟩)) ?_ ?_ trivial (by simp))⟩
            · have hcond:0 ≤ n ∧ n < (vs.length:Int):=by omega
              simp [Instr.indexAt,asIntOf,run_underlying hu,hX,hcond,sizeOf,typeInfo,hie,his,hsz,addr_add]
            · obtain ⟨v1,v2⟩:=views_enc vs n.toNat (o:=o) (w:=w) hye.cells hfit
              refine .ro y.cells.toList v1 (fun j z hj => ?_) v2
              exact hc2 j z (by simpa using hj)
      · simp at h
    · simp at h
  | index t x i =>
    simp only [pureK] at h
    split at h
    · rename_i s kk n hs hi
      rw [bif_some] at h
      obtain ⟨hty,h⟩:=h
      have ht:(C.ty t).ty = .str:=by
        cases hh:(C.ty t).ty <;> simp [hh,isStr] at hty
        rfl
      simp only [chk_some,decide_eq_true_eq,nthB] at h
      obtain ⟨h0,hlt0,h⟩:=h
      · have hb:s[n.toNat]? = some (s.getD n.toNat 0):=by simp [List.getElem?_eq_getElem hlt0]
        revert h hb
        generalize s.getD n.toNat 0 = b
        intro h hb
        obtain ⟨X,hX,hx⟩:=hr.evx x hs
        obtain ⟨I,hI,hin⟩:=hr.evx i hi
        obtain ⟨rfl,hl⟩:=hx.str_inv
        have hin:=hin.int_inv
        subst hin
        refine ⟨_,h,.of (Instr.index t (.string ⟨s.toArray⟩) (.int kk n)) (fun _ _ _ _ => by simp [execOp,hI,hX]) (.data hr.gl ?_ (.int _ _))⟩
        have:(⟨s.toArray⟩:ByteArray)[n.toNat]? = some b:=by
          obtain ⟨h1,h2⟩:=List.getElem?_eq_some_iff.1 hb
          have h3:n.toNat < (⟨s.toArray⟩:ByteArray).size:=h1
          rw [getElem?_pos (⟨s.toArray⟩:ByteArray) n.toNat h3]
          simp only [Option.some.injEq]
          rw [← h2]; rfl
        simp [Instr.index,asIntOf,run_underlying (hC.str t ht),h0,this]
    · rename_i vs kk n hs hi
      split at h
      · rename_i len e ht
        simp only [chk_some,decide_eq_true_eq] at h
        obtain ⟨h0,h1,h⟩:=h
        rw [bif_some] at h
        obtain ⟨hle,h⟩:=h
        split at h
        · rename_i v hv
          obtain ⟨hu,hne⟩:=hC.array t len e ht
          obtain ⟨ie,hie,his,_⟩:=hC.info e hne
          obtain ⟨X,hX,hx⟩:=hr.evx x hs
          obtain ⟨I,hI,hin⟩:=hr.evx i hi
          have hin:=hin.int_inv
          subst hin
          cases hx.d_inv with | agg _ xs hxs hss =>
          obtain ⟨y,h2,h3⟩:=part_enc (P:=P) hC hne hxs hss (n.toNat * (C.ty e).size) (by have:=Nat.le_of_ble_eq_true hle; rw [Nat.add_mul] at this; omega) hv
          refine ⟨_,h,.of (Instr.index t (.agg xs.toArray) (.int kk n)) (fun _ _ _ _ => by simp [execOp,hI,hX]) (.data hr.gl ?_ h3)⟩
          have hcond:0 ≤ n ∧ n < (len:Int):=⟨h0,h1⟩
          simp [Instr.index,asIntOf,run_underlying hu,hcond,sizeOf,typeInfo,hie,his,h2]
        · simp at h
      · simp at h
    · simp at h
  | call c =>
    unfold pureK at h
    split at h
    all_goals first | (rename_i heq; simp at heq; done) | (simp at h; done) | skip
    · rename_i args ats heq
      simp only [Op.call.injEq] at heq
      subst heq
      split at h
      · rename_i x hargs
        have hargs:args = #[x]:=by apply Array.ext'; simpa using hargs
        subst hargs
        split at h
        · rename_i sz vs hd
          split at h
          · rename_i tt ats' hat
            split at h
            · rename_i e ht
              refine ⟨_,h,.of (Builtin.len_ ats ty #[a.eval x]) (fun _ _ _ _ => by simp [execOp,resolve,invoke,builtin]) (.data hr.gl (y:=.int .i64 vs.length) ?_ (.int _ _))⟩
              have hats:ats[0]? = some tt:=by rw [← Array.getElem?_toList,hat]; rfl
              have he:=(hr.ev x).data hd
              have hu:=(hC.slice _ _ ht).1
              rcases he.slc_inv with ⟨rfl,_,hX⟩ | ⟨b,off,cap,xs,hX,_⟩ <;>
                simp [Builtin.len_,hats,run_underlying hu,hX,goInt]
            · simp at h
          · simp at h
        · rename_i s hd
          split at h
          · rename_i tt ats' hat
            split at h
            · rename_i ht
              refine ⟨_,h,.of (Builtin.len_ ats ty #[a.eval x]) (fun _ _ _ _ => by simp [execOp,resolve,invoke,builtin]) (.data hr.gl (y:=.int .i64 s.length) ?_ (.int _ _))⟩
              have hats:ats[0]? = some tt:=by rw [← Array.getElem?_toList,hat]; rfl
              obtain ⟨hX,hl⟩:=((hr.ev x).data hd).str_inv
              have hu:=hC.str _ ht
              have hsz:(⟨s.toArray⟩:ByteArray).size = s.length:=rfl
              rw [hX]
              simp [Builtin.len_,hats,run_underlying hu,goInt,hsz]
            · simp at h
          · simp at h
        · simp at h
      · simp at h
    · rename_i args ats heq
      simp only [Op.call.injEq] at heq
      subst heq
      split at h
      · rename_i x y hargs
        have hargs:args = #[x,y]:=by apply Array.ext'; simpa using hargs
        subst hargs
        split at h
        · rename_i ka na kb nb hx hy
          rw [bif_some] at h
          obtain ⟨hk,h⟩:=h
          simp at hk; subst hk
          obtain ⟨X,hX,hx⟩:=hr.evx x hx
          obtain ⟨Y,hY,hy⟩:=hr.evx y hy
          have hx:=hx.int_inv
          have hy:=hy.int_inv
          subst hx; subst hy
          refine ⟨_,h,.of (Builtin.min_ ats ty #[a.eval x,a.eval y]) (fun _ _ _ _ => by simp [execOp,resolve,invoke,builtin]) (.data hr.gl (y:=.int ka (min na nb)) ?_ (.int _ _))⟩
          rw [hX,hY]
          simp [Builtin.min_,Builtin.min2]
          omega
        · simp at h
      · simp at h
    · rename_i args ats heq
      simp only [Op.call.injEq] at heq
      subst heq
      split at h
      · rename_i x y hargs
        have hargs:args = #[x,y]:=by apply Array.ext'; simpa using hargs
        subst hargs
        split at h
        · rename_i ka na kb nb hx hy
          rw [bif_some] at h
          obtain ⟨hk,h⟩:=h
          simp at hk; subst hk
          obtain ⟨X,hX,hx⟩:=hr.evx x hx
          obtain ⟨Y,hY,hy⟩:=hr.evx y hy
          have hx:=hx.int_inv
          have hy:=hy.int_inv
          subst hx; subst hy
          refine ⟨_,h,.of (Builtin.max_ ats ty #[a.eval x,a.eval y]) (fun _ _ _ _ => by simp [execOp,resolve,invoke,builtin]) (.data hr.gl (y:=.int ka (max na nb)) ?_ (.int _ _))⟩
          rw [hX,hY]
          simp [Builtin.max_,Builtin.max2]
          omega
        · simp at h
      · simp at h
  | alloc _ | box _ _ | insert _ _ _ _ | load _ _ | store _ _ _ | ready _ | waits _ | sliceToArrayPointer _ _ | makeMap _ _ | makeChan _ _ | makeSlice _ _ _ | lookup _ _ _ _ | mapUpdate _ _ _ _ | mapEntry _ _ _ | entryStore _ _ _ _ | range _ _ | next _ _ | entry _ | typeAssert _ _ _ _ | extract _ _ | go _ | defer _ | panic _ | send _ _ | recv _ _ _ | select _ _ => simp [pureK] at h
end
end Go.PS
end

section
namespace Go.PS
open Go.RowKit
section
variable {P:Program} {C:Ctx} {W0:World} {o:Own} {sig:List Nat} {st:St} {a:Act} {w:World} {R:Type} {tm:Array Value}
theorem set_self (tm:Array Value) (d:Nat):tm.setIfInBounds d (tm.getD d undef) = tm:=by
  apply Array.ext'
  rw [Array.toList_setIfInBounds]
  apply List.ext_getElem?
  intro i
  rw [List.getElem?_set]
  by_cases e:d = i
  · subst e
    by_cases h:d < tm.size
    · simp [h]
    · simp [h]
  · simp [e]
theorem Rel.setPS (h:Rel W0 o sig st tm w) {d:Nat} {v:PV} (hv:PEnc o w sig v (tm.getD d undef)) (hc:∀ k,Cap o w (.slot d k) (cmpV v k) (cmpX v (tm.getD d undef) k)) :
    Rel W0 o sig (st.set d v) tm w:=by
  have:=h.set hv hc
  rwa [set_self] at this
def rel (φ:Pl → Pl) (o:Own):Own:=fun b => (o b).map fun x => (x.1,φ x.2)
theorem rel_some {φ:Pl → Pl} {b lo p} (h:o b = some (lo,p)):rel φ o b = some (lo,φ p):=by simp [rel,h]
theorem rel_stab {φ:Pl → Pl} {b off x} (h:Stab o w b off x):Stab (rel φ o) w b off x:=by
  refine ⟨h.1,fun lo p hlo => ?_⟩
  unfold rel at hlo
  cases hb:o b with
  | none => simp [hb] at hlo
  | some q => simp [hb] at hlo; exact hlo.1 ▸ h.2 q.1 q.2 (by rw [hb])
theorem rel_step {φ:Pl → Pl} (he:φ .ext = .ext):Step o w (rel φ o) w :=
  ⟨rfl,rfl,rfl,Nat.le_refl _,fun b _ hp => ⟨rfl,by
    unfold rel
    cases hb:o b with
    | none => rfl
    | some q =>
      obtain ⟨lo,p⟩:=q
      rw [hb] at hp
      cases p <;> simp [Prot] at hp
      simp [he]⟩,fun _ _ _ h => rel_stab h⟩
theorem Cap.rel {φ:Pl → Pl} {p v x} (h:Cap o w p v x) (hφ:¬ v.noOwn → φ p = p):Cap (rel φ o) w p v x:=by
  unfold Cap at *
  split
  · intro hn
    obtain ⟨h0,h1,h2⟩:=h hn
    refine ⟨h0,?_,h2⟩
    rw [rel_some h1,hφ (fun h => h)]
  · trivial
theorem RelH.relabel {heap:List PObj} (h:RelH o sig heap w) (φ:Pl → Pl) (ho:∀ id,φ (.obj id) = .obj id)
    (hc:∀ (id off:Nat) vs,heap[id]? = some (.cells vs) → off < vs.length → ¬ (gt .undef vs off).noOwn → φ (.cell id off) = .cell id off):RelH (rel φ o) sig heap w where
  sigl:=h.sigl
  obj id ob hid:=by
    obtain ⟨b,h1,h2,h3⟩:=h.obj id ob hid
    refine ⟨b,h1,by rw [rel_some h2,ho],?_⟩
    cases ob with
    | cells vs =>
      obtain ⟨cs,T,h4,h5,h6⟩:=h3
      exact ⟨cs,T,h4,h5,fun off hoff => ⟨(h6 off hoff).1.mono (fun _ _ _ h => rel_stab h) fun _ _ h => h,(h6 off hoff).2.1.rel (hc id off vs hid hoff),(h6 off hoff).2.2⟩⟩
    | iter s pos => exact h3
theorem Gl.relabel (g:Gl W0 o w) (φ:Pl → Pl):Gl W0 (rel φ o) w :=
  ⟨g.size,fun b hb => ⟨(g.keep b hb).1,by simp [rel,(g.keep b hb).2]⟩,fun b hb => g.fin b (fun e => hb (by simp [rel,e]))⟩
theorem Rel.relabel (h:Rel W0 o sig st tm w) (φ:Pl → Pl) (hs:∀ j k,¬ (cmpV (gt .undef st.slots j) k).noOwn → φ (.slot j k) = .slot j k) (ho:∀ id,φ (.obj id) = .obj id)
    (hc:∀ (id off:Nat) vs,st.heap[id]? = some (.cells vs) → off < vs.length → ¬ (gt .undef vs off).noOwn → φ (.cell id off) = .cell id off):Rel W0 (rel φ o) sig st tm w where
  gl:=h.gl.relabel φ
  len:=h.len
  slot j:=(h.slot j).mono (fun _ _ _ h => rel_stab h) fun _ _ h => h
  cap j k:=(h.cap j k).rel (hs j k)
  hp:=h.hp.relabel φ ho hc
def SigExt (s s' : List Nat):Prop:=∀ (id:Nat) b,s[id]? = some b → s'[id]? = some b
theorem SigExt.refl (s:List Nat):SigExt s s:=fun _ _ h => h
theorem SigExt.trans {a b c:List Nat} (h:SigExt a b) (g:SigExt b c):SigExt a c:=fun id x hx => g id x (h id x hx)
theorem SigExt.snoc (s:List Nat) (b:Nat):SigExt s (s ++ [b]):=fun id x hx => by
  rw [List.getElem?_append_left (List.getElem?_eq_some_iff.1 hx).1]; exact hx
def own1 (o:Own) (b:Nat) (x:Nat × Pl):Own:=fun c => if c = b then some x else o c
theorem Grow.obj (g:Gl W0 o w) (ob:Obj) (x:Nat × Pl):Grow o w (own1 o w.heap.size x) (w.alloc ob) :=
  ⟨rfl,rfl,rfl,by simp,fun b hb => ⟨Below.heap_alloc _ _ _ hb,by simp [own1,Nat.ne_of_lt hb]⟩,fun b hb => by
    unfold own1 at hb
    split at hb
    · simp; omega
    · have:=g.fin b hb; simp; omega⟩
theorem RelH.addObj {heap:List PObj} {b:Nat} {ob:PObj} (h:RelH o sig heap w) (ho:o b = some (0,.obj heap.length)) (hob:ObjEnc o w (sig ++ [b]) heap.length b ob):RelH o (sig ++ [b]) (heap ++ [ob]) w where
  sigl:=by simp [h.sigl]
  obj id ob' hid:=by
    by_cases e:id < heap.length
    · rw [List.getElem?_append_left e] at hid
      obtain ⟨b',h1,h2,h3⟩:=h.obj id ob' hid
      refine ⟨b',SigExt.snoc sig b id b' h1,h2,?_⟩
      cases ob' with
      | cells vs =>
        obtain ⟨cs,T,h4,h5,h6⟩:=h3
        exact ⟨cs,T,h4,h5,fun off hoff => ⟨(h6 off hoff).1.mono (fun _ _ _ h => h) (SigExt.snoc sig b),(h6 off hoff).2⟩⟩
      | iter s pos => exact h3
    · have hl:=(List.getElem?_eq_some_iff.1 hid).1
      simp at hl
      have:id = heap.length:=by omega
      subst this
      rw [List.getElem?_append_right (Nat.le_refl _)] at hid
      simp at hid
      subst hid
      exact ⟨b,by rw [List.getElem?_append_right (by rw [h.sigl]; exact Nat.le_refl _)]; simp [h.sigl],ho,hob⟩
theorem Rel.addObj {b:Nat} {ob:PObj} (h:Rel W0 o sig st tm w) (ho:o b = some (0,.obj st.heap.length)) (hob:ObjEnc o w (sig ++ [b]) st.heap.length b ob):Rel W0 o (sig ++ [b]) ⟨st.slots,st.heap ++ [ob]⟩ tm w where
  gl:=h.gl
  len:=h.len
  slot j:=(h.slot j).mono (fun _ _ _ h => h) (SigExt.snoc sig b)
  cap:=h.cap
  hp:=h.hp.addObj ho hob
end
end Go.PS
end

section
namespace Go.PS
open Go.RowKit
section
variable {P:Program} {C:Ctx} {W0:World} {o:Own} {sig:List Nat} {st:St} {a:Act} {w:World} {R:Type} {tm:Array Value}
def Cells (o:Own) (w:World) (sig:List Nat) (vs:List PV) (b off:Nat):Prop :=
  ∀ j,j < vs.length → ∃ y,w.cell? ⟨b,off + j,none⟩ = some y ∧ PEnc o w sig (gt .undef vs j) y ∧ (gt .undef vs j).cellOk = true
theorem Cells.tail {v:PV} {vs:List PV} {b off:Nat} (h:Cells o w sig (v :: vs) b off):Cells o w sig vs b (off + 1):=by
  intro j hj
  obtain ⟨y,h1,h2,h3⟩:=h (j + 1) (by simp; omega)
  exact ⟨y,by rw [← h1]; congr 2; omega,h2,h3⟩
theorem Cells.drop {vs:List PV} {b off:Nat} (h:Cells o w sig vs b off):∀ n,Cells o w sig (dr vs n) b (off + n):=by
  intro n
  induction n generalizing vs off with
  | zero => cases vs <;> exact h
  | succ n ih =>
    cases vs with
    | nil => intro j hj; simp [dr] at hj
    | cons v vs =>
      have:=ih h.tail
      rw [show off + 1 + n = off + (n + 1) by omega] at this
      exact this
theorem Cells.take {vs:List PV} {b off:Nat} (h:Cells o w sig vs b off) (n:Nat):Cells o w sig (tk vs n) b off:=by
  intro j hj
  rw [tk_eq] at hj ⊢
  simp at hj
  obtain ⟨y,h1,h2,h3⟩:=h j (by omega)
  have:gt .undef (vs.take n) j = gt PV.undef vs j:=by
    rw [gt_eq,gt_eq,List.getElem?_take,if_pos (by omega)]
  rw [this]
  exact ⟨y,h1,h2,h3⟩
theorem datas_cells:∀ {vs:List PV} {ds:List DV} {b off:Nat},Cells o w sig vs b off → datas vs = some ds →
    ∃ ys:List Value,EncL o w ds ys ∧ (∀ v ∈ ds,v.scalar = true) ∧ ∀ (j:Nat) y,ys[j]? = some y → w.cell? ⟨b,off + j,none⟩ = some y
  | [],ds,b,off,_,h => by
    simp [datas] at h; subst h
    exact ⟨[],.nil,by simp,by simp⟩
  | v :: vs,ds,b,off,hc,h => by
    unfold datas at h
    split at h
    · rename_i d hd
      split at h
      · rename_i rs hrs
        simp at h; subst h
        obtain ⟨ys,h1,h2,h3⟩:=datas_cells hc.tail hrs
        obtain ⟨y,h4,h5,h6⟩:=hc 0 (by simp)
        simp only [gt] at h5 h6
        refine ⟨y :: ys,.cons (h5.data hd) h1,?_,?_⟩
        · intro u hu
          simp at hu
          rcases hu with rfl | hu
          · cases v <;> simp [PV.data] at hd
            · rename_i v0
              cases v0 <;> simp at hd <;> subst hd <;> first | rfl | exact h6
            · subst hd; rfl
          · exact h2 u hu
        · intro j z hj
          cases j with
          | zero => simp at hj; subst hj; simpa using h4
          | succ j =>
            simp at hj
            have:=h3 j z hj
            rw [show off + 1 + j = off + (j + 1) by omega] at this
            exact this
      · simp at h
    · simp at h
theorem loadCells_sound (hC:TyOk P C) {t:TypeId} {vs:List PV} {b off:Nat} {k:PV → Option R} {r:R} (hc:Cells o w sig vs b off) (h:loadCells (C.ty t) vs k = some r) :
    ∃ v,k v = some r ∧ ∃ y,(loadVar t ⟨b,off,none⟩).run P w = .ok y w ∧ PEnc o w sig v y ∧ v.noOwn ∧ (∀ us,v ≠ .tup us) ∧ (isScalar (C.ty t).ty = true → w.cell? ⟨b,off,none⟩ = some y):=by
  unfold loadCells at h
  rw [bif_none_some] at h
  obtain ⟨hz,h⟩:=h
  have hz:(C.ty t).size ≠ 0:=by intro e; rw [e] at hz; simp at hz
  cases hsc:isScalar (C.ty t).ty
  · rw [hsc] at h
    simp only [cond_false] at h
    split at h
    · rename_i ds hds
      rw [bif_some] at h
      obtain ⟨hl,h⟩:=h
      have hl:=Nat.eq_of_beq_eq_true hl
      obtain ⟨ys,h1,h2,h3⟩:=datas_cells (hc.take _) hds
      obtain ⟨i,hi,his,_⟩:=hC.info t hz
      refine ⟨_,h,_,?_,.d (.agg ds ys h1 h2),trivial,by simp,by simp [hsc]⟩
      have hload:=run_loadCells_list (P:=P) w ⟨b,off,none⟩ ys (fun j v hj => by rw [addr_add]; exact h3 j v hj)
      have hys:ys.length = i.size:=by rw [← h1.length,hl,his]
      rw [hys] at hload
      simp [loadVar,hC.agg t w hz,hsc,sizeOf,typeInfo,hi,hload]
    · simp at h
  · rw [hsc] at h
    simp only [cond_true] at h
    split at h
    · rename_i v vs'
      obtain ⟨y,h1,h2,h3⟩:=hc 0 (by simp)
      simp only [gt,Nat.add_zero] at h1 h2 h3
      refine ⟨_,h,y,?_,h2.plain,PV.plain_noOwn _,plain_tup fun us e => ?_,fun _ => h1⟩
      · simp [loadVar,hC.agg t w hz,hsc,h1]
      · rw [e] at h3; simp [PV.cellOk] at h3
    · simp at h
theorem heapCells_inv {h:List PObj} {id:Nat} {k:List PV → Option R} {r:R} (hh:heapCells h id k = some r):∃ vs,h[id]? = some (.cells vs) ∧ k vs = some r:=by
  unfold heapCells at hh
  rw [gt_some] at hh
  split at hh
  · rename_i vs he; exact ⟨vs,he,hh⟩
  · simp at hh
theorem RelH.cells {heap:List PObj} {id b:Nat} {vs:List PV} (h:RelH o sig heap w) (hid:heap[id]? = some (.cells vs)) (hb:sig[id]? = some b) :
    o b = some (0,.obj id) ∧ ∃ (cs:Array Value) (T:TypeId),w.heap[b]? = some (.cells cs T (0,0)) ∧ cs.size = vs.length ∧
      ∀ off,off < vs.length → PEnc o w sig (gt .undef vs off) (cs.getD off undef) ∧ Cap o w (.cell id off) (gt .undef vs off) (cs.getD off undef) ∧ (gt .undef vs off).cellOk = true:=by
  obtain ⟨b',h1,h2,h3⟩:=h.obj id _ hid
  rw [hb] at h1; simp at h1; subst h1
  exact ⟨h2,h3⟩
theorem RelH.toCells {heap:List PObj} {id b:Nat} {vs:List PV} (h:RelH o sig heap w) (hid:heap[id]? = some (.cells vs)) (hb:sig[id]? = some b):Cells o w sig vs b 0:=by
  obtain ⟨_,cs,T,h1,h2,h3⟩:=h.cells hid hb
  intro j hj
  obtain ⟨h4,_,h5⟩:=h3 j hj
  have hlt:j < cs.size:=by omega
  refine ⟨cs.getD j undef,?_,h4,h5⟩
  simp [World.cell?,h1,hlt]
theorem gt_dCells (vs:List DV) (j:Nat):gt .undef (dCells vs) j = match vs[j]? with | some v => .d v | none => .undef:=by
  induction vs generalizing j with
  | nil => simp [dCells,gt]
  | cons v vs ih => cases j <;> simp [dCells,gt,ih]
theorem dCells_length (vs:List DV):(dCells vs).length = vs.length:=by
  induction vs with
  | nil => rfl
  | cons v vs ih => simp [dCells,ih]
theorem ro_cells {vs:List DV} {ys:List Value} {b off:Nat} (hx:EncL o w vs ys) (hc:∀ (j:Nat) y,ys[j]? = some y → Stab o w b (off + j) y) (hs:∀ v ∈ vs,v.scalar = true) :
    Cells o w sig (dCells vs) b off:=by
  intro j hj
  rw [dCells_length] at hj
  obtain ⟨y,hy,he⟩:=hx.get (List.getElem?_eq_getElem hj)
  refine ⟨y,(hc j y hy).1,?_,?_⟩
  · rw [gt_dCells,List.getElem?_eq_getElem hj]; exact .d he
  · rw [gt_dCells,List.getElem?_eq_getElem hj]; exact hs _ (List.getElem_mem hj)
structure Conts (W0:World) (o:Own) (sig:List Nat) (w:World) (a:Act) (oper:Oper) (kp:DV → List PObj → Option R) (k:St → Option R) (r:R) (next:Act → World → Prop) (Q:Exit → Act → World → Prop):Prop where
  hk:∀ x st' o' sig' w',k st' = some r → Rel W0 o' sig' st' (a.put oper.dst x).tmps w' → Step o w o' w' → SigExt sig sig' → next (a.put oper.dst x) w'
  hp:∀ v x hp' o' sig' w',kp v hp' = some r → Enc o' w' v x → RelH o' sig' hp' w' → Gl W0 o' w' → Step o w o' w' → SigExt sig sig' → Q (.panic [{ v:=x,recovered:=false }]) a w'
theorem wp_value {oper:Oper} {next:Act → World → Prop} {Q:Exit → Act → World → Prop} {x:Value} {w' : World} (h:(execOp a.eval oper).run P w = .ok (.value x) w') (hn:next (a.put oper.dst x) w'):oper.wp P a w next Q:=by
  unfold Oper.wp; rw [h]; exact hn
theorem wp_skip' {oper:Oper} {next:Act → World → Prop} {Q:Exit → Act → World → Prop} {w' : World} (h:(execOp a.eval oper).run P w = .ok .skip w') (hn:next (a.put oper.dst undef) w'):oper.wp P a w next Q:=by
  unfold Oper.wp; rw [h]; exact hn
theorem wp_pan {oper:Oper} {next:Act → World → Prop} {Q:Exit → Act → World → Prop} {x:Value} {w' : World} (h:(execOp a.eval oper).run P w = .halt (.panic x) w') (hn:Q (.panic [{ v:=x,recovered:=false }]) a w'):oper.wp P a w next Q:=by
  unfold Oper.wp; rw [h]; exact hn
theorem pure_wp (hC:TyOk P C) (hr:Rel W0 o sig st a.tmps w) {oper:Oper} {kp:DV → List PObj → Option R} {k:St → Option R} {r:R} {next:Act → World → Prop} {Q:Exit → Act → World → Prop}
    (hc:Conts W0 o sig w a oper kp k r next Q) (hmv:∀ x vs,(oper.op = .move x ∨ oper.op = .assign x) → ev st x ≠ .tup vs) (hpk:∀ c x y vs,oper.op = .pick c x y → ev st x ≠ .tup vs ∧ ev st y ≠ .tup vs)
    (h:pureK C oper.op st (fun v => k (st.put oper.dst v)) = some r):oper.wp P a w next Q:=by
  obtain ⟨v,h1,y,w',h2,h3,h4,h5⟩:=pureK_sound hC hr oper.type h hmv hpk
  refine wp_value (h2 oper.dst oper.pos oper.after oper.guard) (hc.hk y _ o sig w' h1 ((hr.grow h3).put h4 fun d _ k => h5 d k) h3.step (.refl _))
end
end Go.PS
end

section
namespace Go.PS
open Go.RowKit
section
variable {P:Program} {C:Ctx} {W0:World} {o:Own} {sig:List Nat} {st:St} {a:Act} {w:World} {R:Type} {tm:Array Value}
  {oper:Oper} {kp:DV → List PObj → Option R} {k:St → Option R} {r:R} {next:Act → World → Prop} {Q:Exit → Act → World → Prop}
def mv (t d:Nat) (p:Pl):Pl :=
  match p with
  | .slot j k => if j = t then .slot d k else .slot j k
  | p => p
theorem Rel.mvSlot (h:Rel W0 o sig st tm w) {t:Nat} (d:Nat) (ht:∀ k,(cmpV (gt .undef st.slots t) k).noOwn):Rel W0 (rel (mv t d) o) sig st tm w:=by
  refine h.relabel _ (fun j k hn => ?_) (fun _ => rfl) fun _ _ _ _ _ _ => rfl
  unfold mv
  dsimp only
  rw [if_neg]
  rintro rfl
  exact hn (ht k)
theorem mv_step (t d:Nat):Step o w (rel (mv t d) o) w:=rel_step rfl
theorem cap_mv {t d k:Nat} {v:PV} {x:Value} (h:Cap o w (.slot t k) v x):Cap (rel (mv t d) o) w (.slot d k) v x:=by
  unfold Cap at *
  split
  · intro hn
    obtain ⟨h0,h1,h2⟩:=h hn
    exact ⟨h0,by rw [rel_some h1]; simp [mv],h2⟩
  · trivial
theorem plain_cmp {v:PV} (h:v.noOwn) (ht:∀ vs,v ≠ .tup vs) (k:Nat):(cmpV v k).noOwn:=by
  unfold cmpV
  split
  · rename_i vs; exact absurd rfl (ht vs)
  · split
    · exact h
    · trivial
theorem St.set_gt {d:Nat} {v:PV} (h:v.noOwn) (ht:∀ vs,v ≠ .tup vs) (k:Nat):(cmpV (gt .undef (st.set d v).slots d) k).noOwn:=by
  simp only [St.set,gt_up]
  split
  · exact plain_cmp h ht k
  · rename_i hn
    have:gt .undef st.slots d = .undef:=by
      rw [gt_eq,List.getElem?_eq_none (by simp at hn; exact hn)]; rfl
    rw [this]; exact plain_cmp (v:=.undef) trivial (by simp) k
theorem Cap.cmp0 {p:Pl} {v:PV} {x:Value} (h:Cap o w p (cmpV v 0) (cmpX v x 0)) (ht:∀ vs,v ≠ .tup vs):Cap o w p v x:=by
  cases v with
  | tup vs => exact absurd rfl (ht vs)
  | _ => simpa [cmpV,cmpX] using h
theorem cap_own_cmp {d:Nat} {sz:Nat} {vs:List DV} {x:Value} (h:Cap o w (.slot d 0) (.own sz vs) x) (k:Nat):Cap o w (.slot d k) (cmpV (.own sz vs) k) (cmpX (.own sz vs) x k):=by
  unfold cmpV cmpX
  dsimp only
  split
  · subst_vars; exact h
  · trivial
theorem wp_moveTup (hr:Rel W0 o sig st a.tmps w) (hc:Conts W0 o sig w a oper kp k r next Q) {t:Nat} {vs:List PV} (ho:oper.op = .move (.tmp t)) (hv:gt .undef st.slots t = .tup vs)
    (h:k ((st.set t .undef).put oper.dst (.tup vs)) = some r):oper.wp P a w next Q:=by
  have hs:=hr.slot t
  have hcap:=hr.cap t
  rw [hv] at hs hcap
  have h1:=hr.setPS (d:=t) (v:=.undef) .undef (fun k => cap_cmp_noOwn (v:=.undef) trivial (by simp) k)
  cases hd:oper.dst with
  | none =>
    refine wp_value (P:=P) (x:=a.tmps.getD t undef) (w':=w) (by simp [execOp,ho,Act.eval]) (hc.hk _ _ o sig w h ?_ (.refl _ _) (.refl _))
    rw [hd]; exact h1
  | some d =>
    have h2:=h1.mvSlot d (t:=t) (fun k => St.set_gt (v:=.undef) trivial (by simp) k)
    refine wp_value (P:=P) (x:=a.tmps.getD t undef) (w':=w) (by simp [execOp,ho,Act.eval]) (hc.hk _ _ _ sig w h ?_ (mv_step t d) (.refl _))
    rw [hd]
    refine h2.put (hs.mono (fun _ _ _ h => rel_stab h) fun _ _ h => h) fun d' hd' k => ?_
    simp at hd'; subst hd'
    exact cap_mv (hcap k)
theorem calms_cmp {vs:List PV} (h:calms vs = true) (k:Nat):(gt .undef vs k).noOwn:=by
  induction vs generalizing k with
  | nil => simp [gt,PV.noOwn]
  | cons v vs ih =>
    have:v.noOwn ∧ calms vs = true:=by cases v <;> simp [calms] at h <;> exact ⟨trivial,h⟩
    cases k with
    | zero => exact this.1
    | succ k => exact ih this.2 k
theorem wp_moveCalm (hr:Rel W0 o sig st a.tmps w) (hc:Conts W0 o sig w a oper kp k r next Q) {t:Nat} {vs:List PV} (ho:oper.op = .move (.tmp t)) (hv:gt .undef st.slots t = .tup vs) (hcm:calms vs = true)
    (h:k (st.put oper.dst (.tup vs)) = some r):oper.wp P a w next Q:=by
  have hs:=hr.slot t
  rw [hv] at hs
  refine wp_value (P:=P) (x:=a.tmps.getD t undef) (w':=w) (by simp [execOp,ho,Act.eval]) (hc.hk _ _ o sig w h (hr.put hs fun d _ k => Cap.of_noOwn ?_) (.refl _ _) (.refl _))
  show (gt .undef vs k).noOwn
  exact calms_cmp hcm k
theorem wp_assignOwn (hr:Rel W0 o sig st a.tmps w) (hc:Conts W0 o sig w a oper kp k r next Q) {t sz:Nat} {vs:List DV} (ho:oper.op = .assign (.tmp t)) (hv:gt .undef st.slots t = .own sz vs)
    (h:k ((st.set t (.d (.slc sz vs))).put oper.dst (.own sz vs)) = some r):oper.wp P a w next Q:=by
  have hs:=hr.slot t
  have hcap:=hr.cap t 0
  rw [hv] at hs hcap
  have hcap:Cap o w (.slot t 0) (.own sz vs) (a.tmps.getD t undef):=hcap.cmp0 (by simp)
  have hp:PEnc o w sig (.d (.slc sz vs)) (a.tmps.getD t undef):=hs.plain
  have h1:=hr.setPS (d:=t) hp (fun k => cap_cmp_noOwn (v:=.d (.slc sz vs)) trivial (by simp) k)
  cases hd:oper.dst with
  | none =>
    refine wp_value (P:=P) (x:=a.tmps.getD t undef) (w':=w) (by simp [execOp,ho,Act.eval]) (hc.hk _ _ o sig w h ?_ (.refl _ _) (.refl _))
    rw [hd]; exact h1
  | some d =>
    have h2:=h1.mvSlot d (t:=t) (fun k => St.set_gt (v:=.d (.slc sz vs)) trivial (by simp) k)
    refine wp_value (P:=P) (x:=a.tmps.getD t undef) (w':=w) (by simp [execOp,ho,Act.eval]) (hc.hk _ _ _ sig w h ?_ (mv_step t d) (.refl _))
    rw [hd]
    refine h2.put (hs.mono (fun _ _ _ h => rel_stab h) fun _ _ h => h) fun d' hd' k => ?_
    simp at hd'; subst hd'
    exact cap_own_cmp (cap_mv hcap) k
def mv1 (t i d:Nat) (p:Pl):Pl :=
  match p with
  | .slot j k => if j = t ∧ k = i then .slot d 0 else .slot j k
  | p => p
theorem mv1_step (t i d:Nat):Step o w (rel (mv1 t i d) o) w:=rel_step rfl
theorem cap_mv1 {t i d:Nat} {v:PV} {x:Value} (h:Cap o w (.slot t i) v x):Cap (rel (mv1 t i d) o) w (.slot d 0) v x:=by
  unfold Cap at *
  split
  · intro hn
    obtain ⟨h0,h1,h2⟩:=h hn
    exact ⟨h0,by rw [rel_some h1]; simp [mv1],h2⟩
  · trivial
theorem PEncL.up {vs:List PV} {xs:List Value} (h:PEncL o w sig vs xs) {i:Nat} {v:PV} (hv:PEnc o w sig v (xs.getD i undef)):PEncL o w sig (up vs i v) xs:=by
  match h,i with
  | .nil,_ => exact .nil
  | .cons hh t,0 => exact .cons (by simpa using hv) t
  | .cons hh t,i + 1 => exact .cons hh (t.up (by simpa using hv))
theorem PEnc.tup_inv {vs X} (h:PEnc o w sig (.tup vs) X):∃ xs,X = .tuple xs.toArray ∧ PEncL o w sig vs xs:=by
  cases h with | tup h => exact ⟨_,rfl,h⟩
theorem extract_run {xs:List Value} {i:Nat} (hi:i < xs.length):(Instr.extract (.tuple xs.toArray) i).run P w = .ok (xs.getD i undef) w:=by
  simp [Instr.extract,hi]
theorem wp_extract (hr:Rel W0 o sig st a.tmps w) (hc:Conts W0 o sig w a oper kp k r next Q) {t i:Nat} {vs:List PV} (ho:oper.op = .extract (.tmp t) i) (hv:gt .undef st.slots t = .tup vs)
    (h:(match gt .undef vs i with
      | .own sz es => k ((st.set t (.tup (up vs i (.d (.slc sz es))))).put oper.dst (.own sz es))
      | .tup _ => none
      | .undef => none
      | v => k (st.put oper.dst v)) = some r):oper.wp P a w next Q:=by
  have hs:=hr.slot t
  have hcap:=hr.cap t
  rw [hv] at hs hcap
  obtain ⟨xs,hX,hxs⟩:=hs.tup_inv
  have hlen:=hxs.length
  have hget:=hxs.get i
  have hcapi:=hcap i
  simp only [cmpV,cmpX,hX] at hcapi
  have hgd:(xs.toArray.getD i undef) = xs.getD i undef:=by simp [List.getD]
  rw [hgd] at hcapi
  have hrun:i < xs.length → (execOp a.eval oper).run P w = .ok (.value (xs.getD i undef)) w:=by
    intro hi
    simp [execOp,ho,Act.eval,hX,extract_run (P:=P) (w:=w) hi]
  by_cases hi:i < xs.length
  · split at h
    · rename_i sz es he
      rw [he] at hget hcapi
      have hpl:PEnc o w sig (.d (.slc sz es)) (xs.getD i undef):=hget.plain
      have hnew:PEnc o w sig (.tup (up vs i (.d (.slc sz es)))) (a.tmps.getD t undef):=by rw [hX]; exact .tup (hxs.up hpl)
      have hcnew:∀ k,Cap o w (.slot t k) (cmpV (.tup (up vs i (.d (.slc sz es)))) k) (cmpX (.tup (up vs i (.d (.slc sz es)))) (a.tmps.getD t undef) k):=by
        intro k
        simp only [cmpV,cmpX,hX,gt_up]
        split
        · exact Cap.of_noOwn trivial
        · have:=hcap k; simpa only [cmpV,cmpX,hX] using this
      have h1:=hr.setPS (d:=t) hnew hcnew
      cases hd:oper.dst with
      | none =>
        refine wp_value (P:=P) (hrun hi) (hc.hk _ _ o sig w h ?_ (.refl _ _) (.refl _))
        rw [hd]; exact h1
      | some d =>
        have h2:Rel W0 (rel (mv1 t i d) o) sig (st.set t (.tup (up vs i (.d (.slc sz es))))) a.tmps w:=by
          refine h1.relabel _ (fun j k hn => ?_) (fun _ => rfl) fun _ _ _ _ _ _ => rfl
          unfold mv1
          dsimp only
          rw [if_neg]
          rintro ⟨rfl,rfl⟩
          apply hn
          simp only [St.set,gt_up]
          split
          · simp only [cmpV,gt_up]
            rw [if_pos (by simp; omega)]; trivial
          · rename_i hn2
            have:gt .undef st.slots j = .undef:=by
              rw [gt_eq,List.getElem?_eq_none (by simp at hn2; exact hn2)]; rfl
            rw [this] at hv; simp at hv
        refine wp_value (P:=P) (hrun hi) (hc.hk _ _ _ sig w h ?_ (mv1_step t i d) (.refl _))
        rw [hd]
        refine h2.put (hget.mono (fun _ _ _ h => rel_stab h) fun _ _ h => h) fun d' hd' k => ?_
        simp at hd'; subst hd'
        exact cap_own_cmp (cap_mv1 hcapi) k
    · simp at h
    · simp at h
    · rename_i v hn1 hn2 hn3
      refine wp_value (P:=P) (hrun hi) (hc.hk _ _ o sig w h (hr.put_plain hget ?_ fun us e => hn2 us (by rw [e])) (.refl _ _) (.refl _))
      cases hv' : gt .undef vs i <;> first | trivial | (rename_i sz es; exact absurd hv' (hn1 sz es))
  · have:gt .undef vs i = .undef:=by rw [gt_eq,List.getElem?_eq_none (by omega)]; rfl
    rw [this] at h; simp at h
end
end Go.PS
end

section
namespace Go.PS
open Go.RowKit
section
variable {P:Program} {C:Ctx} {W0:World} {o:Own} {sig:List Nat} {st:St} {a:Act} {w:World} {R:Type} {tm:Array Value}
  {oper:Oper} {kp:DV → List PObj → Option R} {k:St → Option R} {r:R} {next:Act → World → Prop} {Q:Exit → Act → World → Prop}
theorem cap_rel {φ:Pl → Pl} {p q:Pl} {v:PV} {x:Value} (h:Cap o w p v x) (hq:φ p = q):Cap (rel φ o) w q v x:=by
  unfold Cap at *
  split
  · intro hn
    obtain ⟨h0,h1,h2⟩:=h hn
    exact ⟨h0,by rw [rel_some h1,hq],h2⟩
  · trivial
theorem gt_toCells (vs:List DV) (j:Nat):gt .undef (toCells vs) j = match vs[j]? with | some v => toCell v | none => .undef:=by
  induction vs generalizing j with
  | nil => simp [toCells,gt]
  | cons v vs ih => cases j <;> simp [toCells,gt,ih]
theorem toCells_length (vs:List DV):(toCells vs).length = vs.length:=by
  induction vs with
  | nil => rfl
  | cons v vs ih => simp [toCells,ih]
theorem toCell_enc {v:DV} {y:Value} (h:Enc o w v y):PEnc o w sig (toCell v) y:=by
  unfold toCell
  split
  · cases h; exact .own (.slcNil _)
  · exact .d h
theorem toCell_cap {o' : Own} {w' : World} {v:DV} {y:Value} (h:Enc o w v y) (p:Pl):Cap o' w' p (toCell v) y:=by
  unfold toCell
  split
  · cases h; trivial
  · exact Cap.of_noOwn trivial
theorem toCell_ok {v:DV} (h:v.scalar = true):(toCell v).cellOk = true:=by
  unfold toCell
  split
  · rfl
  · exact h
theorem alloc_heap (w:World) (ob:Obj):(w.alloc ob).heap[w.heap.size]? = some ob:=by
  show (w.heap.push _)[w.heap.size]? = _
  simp
theorem wp_newObj (hr:Rel W0 o sig st a.tmps w) (hc:Conts W0 o sig w a oper kp k r next Q) {vs:List PV} {ys:Array Value} {T:TypeId}
    (hrun:(execOp a.eval oper).run P w = .ok (.value (.pointer (some ⟨w.heap.size,0,none⟩))) (w.alloc (.cells ys T))) (hl:ys.size = vs.length)
    (hv:∀ off,off < vs.length → PEnc o w sig (gt .undef vs off) (ys.getD off undef) ∧ Cap o w (.cell st.heap.length off) (gt .undef vs off) (ys.getD off undef) ∧ (gt .undef vs off).cellOk = true)
    (h:k (St.put ⟨st.slots,st.heap ++ [.cells vs]⟩ oper.dst (.ptr st.heap.length 0)) = some r):oper.wp P a w next Q:=by
  have hg:=Grow.obj hr.gl (.cells ys T) (0,.obj st.heap.length)
  have h1:=hr.grow hg
  have hn:own1 o w.heap.size (0,.obj st.heap.length) w.heap.size = some (0,.obj st.heap.length):=by simp [own1]
  have h2:=h1.addObj (ob:=.cells vs) hn ⟨ys,T,alloc_heap w _,hl,fun off hoff => by
    obtain ⟨h3,h4,h5⟩:=hv off hoff
    exact ⟨h3.mono hg.step.stab (SigExt.snoc sig _),h4.grow hg hr.gl.fin,h5⟩⟩
  refine wp_value hrun (hc.hk _ _ _ _ _ h (h2.put_plain (.ptr ?_) trivial (by simp)) hg.step (SigExt.snoc sig _))
  rw [List.getElem?_append_right (by rw [hr.hp.sigl]; exact Nat.le_refl _)]; simp [hr.hp.sigl]
theorem wp_alloc (hC:TyOk P C) (hr:Rel W0 o sig st a.tmps w) (hc:Conts W0 o sig w a oper kp k r next Q) {t:TypeId} (ho:oper.op = .alloc t) (hz:(C.ty t).zero ≠ [])
    (h:k (St.put ⟨st.slots,st.heap ++ [.cells (toCells (C.ty t).zero)]⟩ oper.dst (.ptr st.heap.length 0)) = some r):oper.wp P a w next Q:=by
  obtain ⟨i,z,hi,hiz,his,hze⟩:=hC.zero t hz
  have hz0:=hC.zeroC t hz
  have he:=(hze o w).cells
  have hs:=(hze o w).scalars
  rw [hz0] at he hs
  refine wp_newObj hr hc (ys:=z.cells) (T:=t) ?_ ?_ ?_ h
  · simp [execOp,ho,Instr.alloc,zeroValue,typeInfo,hi,hiz,newVar,newRow]
  · rw [toCells_length,he.length]; simp
  · intro off hoff
    rw [toCells_length] at hoff
    obtain ⟨y,hy,hye⟩:=he.get (List.getElem?_eq_getElem hoff)
    have hyd:z.cells.getD off undef = y:=by
      rw [Array.getElem?_toList] at hy
      simp [Array.getD_eq_getD_getElem?,hy]
    rw [gt_toCells,List.getElem?_eq_getElem hoff,hyd]
    exact ⟨toCell_enc hye,toCell_cap hye _,toCell_ok (hs _ (List.getElem_mem hoff))⟩
theorem cells_single {v:Value} (h:∀ cs,v ≠ .agg cs):v.cells = #[v]:=by
  cases v <;> first | rfl | (rename_i cs; exact absurd rfl (h cs))
theorem wp_box (hr:Rel W0 o sig st a.tmps w) (hc:Conts W0 o sig w a oper kp k r next Q) {t:TypeId} {x:Operand} (ho:oper.op = .box t x)
    (h:(match ev st x with
    | .own sz vs => (match (generalizing:=false) x with
      | .tmp t => k (St.put ⟨up st.slots t (.d (.slc sz vs)),st.heap ++ [.cells [.own sz vs]]⟩ oper.dst (.ptr st.heap.length 0))
      | _ => k (St.put ⟨st.slots,st.heap ++ [.cells [.own (C.esz t) []]]⟩ oper.dst (.ptr st.heap.length 0)))
    | .d v => k (St.put ⟨st.slots,st.heap ++ [.cells (toCells v.cells)]⟩ oper.dst (.ptr st.heap.length 0))
    | .func f c => k (St.put ⟨st.slots,st.heap ++ [.cells [.func f c]]⟩ oper.dst (.ptr st.heap.length 0))
    | .ptr id off => k (St.put ⟨st.slots,st.heap ++ [.cells [.ptr id off]]⟩ oper.dst (.ptr st.heap.length 0))
    | _ => none) = some r):oper.wp P a w next Q:=by
  have hrun:(execOp a.eval oper).run P w = .ok (.value (.pointer (some ⟨w.heap.size,0,none⟩))) (w.alloc (.cells (a.eval x).cells t)):=by
    simp [execOp,ho,Instr.box,newVar,newRow]
  have one:∀ {v:PV} {X:Value},a.eval x = X → PEnc o w sig v X → (∀ cs,X ≠ .agg cs) → v.noOwn → v.cellOk = true →
      k (St.put ⟨st.slots,st.heap ++ [.cells [v]]⟩ oper.dst (.ptr st.heap.length 0)) = some r → oper.wp P a w next Q:=by
    intro v X hX hv hna hno hok hk
    rw [hX,cells_single hna] at hrun
    refine wp_newObj hr hc hrun rfl ?_ hk
    intro off hoff
    simp at hoff; subst hoff
    exact ⟨hv,Cap.of_noOwn hno,hok⟩
  clear ho
  split at h
  · rename_i sz vs he
    obtain ⟨X,hX,hx⟩:=hr.evx x he
    have hx0:=hx
    cases hx with | own hs =>
    have hna:∀ cs,X ≠ .agg cs:=by rcases hs.slc_inv with ⟨_,_,rfl⟩ | ⟨b,off,cap,xs,rfl,_⟩ <;> simp
    rw [hX,cells_single hna] at hrun
    split at h
    · rename_i t'
      have htm:a.tmps.getD t' undef = X:=hX
      have hcap:=hr.cap t' 0
      have he' : gt .undef st.slots t' = .own sz vs:=he
      rw [he',htm] at hcap
      have hcap:Cap o w (.slot t' 0) (.own sz vs) X:=hcap.cmp0 (by simp)
      have h1:=hr.setPS (d:=t') (v:=.d (.slc sz vs)) (by rw [htm]; exact hx0.plain) (fun k => cap_cmp_noOwn (v:=.d (.slc sz vs)) trivial (by simp) k)
      let φ:Pl → Pl:=fun p => match p with | .slot j k => if j = t' ∧ k = 0 then .cell st.heap.length 0 else .slot j k | p => p
      have h2:Rel W0 (rel φ o) sig (st.set t' (.d (.slc sz vs))) a.tmps w:=by
        refine h1.relabel φ (fun j k hn => ?_) (fun _ => rfl) fun _ _ _ _ _ _ => rfl
        show (if j = t' ∧ k = 0 then _ else _) = _
        rw [if_neg]
        rintro ⟨rfl,rfl⟩
        exact hn (St.set_gt (v:=.d (.slc sz vs)) trivial (by simp) 0)
      have hst:Step o w (rel φ o) w:=rel_step rfl
      have hc2:Conts W0 (rel φ o) sig w a oper kp k r next Q:=⟨fun x st' o' sig' w' e1 e2 e3 e4 => hc.hk x st' o' sig' w' e1 e2 (hst.trans e3) e4,fun v x hp' o' sig' w' e1 e2 e3 e4 e5 e6 => hc.hp v x hp' o' sig' w' e1 e2 e3 e4 (hst.trans e5) e6⟩
      refine wp_newObj h2 hc2 hrun rfl ?_ h
      intro off hoff
      simp at hoff; subst hoff
      refine ⟨hx0.mono (fun _ _ _ h => rel_stab h) fun _ _ h => h,?_,rfl⟩
      show Cap (rel φ o) w (.cell st.heap.length 0) (.own sz vs) X
      exact cap_rel hcap (by simp [φ])
    · rename_i hnt
      cases x with
      | tmp t' => exact absurd rfl (hnt t')
      | const c =>
        have hXc:X = .slice none 0 0:=by
          obtain ⟨_,h2⟩:=ofConst_shape c
          have he:ofConst c = .own sz vs:=he
          rcases h2 with h2 | ⟨_,rfl⟩
          · rw [he] at h2; exact h2.elim
          · exact hX.symm
        subst hXc
        refine wp_newObj hr hc hrun rfl ?_ h
        intro off hoff
        simp at hoff; subst hoff
        exact ⟨.own (.slcNil _),trivial,rfl⟩
      | func f => simp [PS.ev] at he
      | global g => simp [PS.ev] at he
  · rename_i v he
    obtain ⟨X,hX,hx⟩:=hr.evx x he
    have hx:=hx.d_inv
    have hcs:=hx.cells
    have hss:=hx.scalars
    rw [hX] at hrun
    refine wp_newObj hr hc hrun ?_ ?_ h
    · rw [toCells_length,hcs.length]; simp
    · intro off hoff
      rw [toCells_length] at hoff
      obtain ⟨y,hy,hye⟩:=hcs.get (List.getElem?_eq_getElem hoff)
      have hyd:X.cells.getD off undef = y:=by
        rw [Array.getElem?_toList] at hy
        simp [Array.getD_eq_getD_getElem?,hy]
      rw [gt_toCells,List.getElem?_eq_getElem hoff,hyd]
      exact ⟨toCell_enc hye,toCell_cap hye _,toCell_ok (hss _ (List.getElem_mem hoff))⟩
  · rename_i f c he
    obtain ⟨X,hX,hx⟩:=hr.evx x he
    obtain ⟨fs,xs,rfl,_⟩:=hx.func_inv
    exact one hX hx (by simp) trivial rfl h
  · rename_i id off he
    obtain ⟨X,hX,hx⟩:=hr.evx x he
    obtain ⟨b,hb,rfl⟩:=hx.ptr_inv
    exact one hX hx (by simp) trivial rfl h
  · simp at h
theorem load_run (hC:TyOk P C) (hr:Rel W0 o sig st a.tmps w) {t:TypeId} {x:Operand} (ho:oper.op = .load t x)
    (h:(match ev st x with
    | .ptr id off => heapCells st.heap id fun cs => loadCells (C.ty t) (dr cs off) fun v => k (st.put oper.dst v)
    | .ro vs => loadCells (C.ty t) (dCells vs) fun v => k (st.put oper.dst v)
    | _ => none) = some r):∃ v y,k (st.put oper.dst v) = some r ∧ (execOp a.eval oper).run P w = .ok (.value y) w ∧ PEnc o w sig v y ∧ v.noOwn ∧ (∀ us,v ≠ .tup us) ∧
      (isScalar (C.ty t).ty = true → ∀ b off,a.eval x = .pointer (some ⟨b,off,none⟩) → w.cell? ⟨b,off,none⟩ = some y):=by
  split at h
  · rename_i id off he
    obtain ⟨vs,hid,h⟩:=heapCells_inv h
    obtain ⟨X,hX,hx⟩:=hr.evx x he
    obtain ⟨b,hb,rfl⟩:=hx.ptr_inv
    have hcs:=(hr.hp.toCells hid hb).drop off
    rw [Nat.zero_add] at hcs
    obtain ⟨v,h1,y,h2,h3,h4,h5,h6⟩:=loadCells_sound (P:=P) hC hcs h
    refine ⟨v,y,h1,?_,h3,h4,h5,fun hs b' off' he => ?_⟩
    · simp [execOp,ho,hX,Instr.loadAt,Instr.sureAddr,h2]
    · rw [hX] at he; cases he; exact h6 hs
  · rename_i vs he
    obtain ⟨X,hX,hx⟩:=hr.evx x he
    obtain ⟨b,off,ys,rfl,e1,e2,e3⟩:=hx.ro_inv
    obtain ⟨v,h1,y,h2,h3,h4,h5,h6⟩:=loadCells_sound (P:=P) hC (ro_cells (sig:=sig) e1 e2 e3) h
    refine ⟨v,y,h1,?_,h3,h4,h5,fun hs b' off' he => ?_⟩
    · simp [execOp,ho,hX,Instr.loadAt,Instr.sureAddr,h2]
    · rw [hX] at he; cases he; exact h6 hs
  · simp at h
end
end Go.PS
end

section
namespace Go.PS
open Go.RowKit
section
variable {P:Program} {C:Ctx} {W0:World} {o:Own} {sig:List Nat} {st:St} {a:Act} {w:World} {R:Type} {tm:Array Value}
  {oper:Oper} {kp:DV → List PObj → Option R} {k:St → Option R} {r:R} {next:Act → World → Prop} {Q:Exit → Act → World → Prop}
theorem setRow_grow {b:Nat} {cs cs' : Array Value} {T:TypeId} {id:Nat} (hb:w.heap[b]? = some (.cells cs T (0,0))) (ho:o b = some (0,.obj id)):Step o w o (w.setRow b cs'):=by
  refine ⟨rfl,rfl,rfl,by simp,fun b' _ hp => ?_,fun b' off x hx => ?_⟩
  · refine ⟨setRow_other w b b' cs' ?_,rfl⟩
    rintro rfl
    rw [ho] at hp; exact hp
  · have hne:b' ≠ b:=by
      rintro rfl
      have:=hx.2 0 _ ho
      omega
    refine ⟨?_,hx.2⟩
    rw [World.cell?_of_block (w:=w) (setRow_other w b b' cs' hne)]; exact hx.1
theorem Cap.setRow {b:Nat} {cs' : Array Value} {id:Nat} (ho:o b = some (0,.obj id)) {p:Pl} (hp:∀ id,p ≠ .obj id) {v:PV} {x:Value} (h:Cap o w p v x):Cap o (w.setRow b cs') p v x:=by
  unfold Cap at *
  split
  · rename_i ad n c
    intro hn
    obtain ⟨h0,h1,cs,T,h2,h3⟩:=h hn
    refine ⟨h0,h1,cs,T,?_,h3⟩
    rw [setRow_other w b _ cs' (by
      intro e
      rw [e,ho] at h1
      simp at h1
      exact hp id h1.2.symm)]
    exact h2
  · trivial
theorem Rel.setObj (hr:Rel W0 o sig st tm w) {id b:Nat} {vs vs' : List PV} {cs cs' : Array Value} {T:TypeId} (hid:st.heap[id]? = some (.cells vs)) (hb:sig[id]? = some b) (hw:w.heap[b]? = some (.cells cs T (0,0)))
    (hl:cs'.size = vs'.length) (hv:∀ off,off < vs'.length → PEnc o w sig (gt .undef vs' off) (cs'.getD off undef) ∧ Cap o w (.cell id off) (gt .undef vs' off) (cs'.getD off undef) ∧ (gt .undef vs' off).cellOk = true) :
    Rel W0 o sig ⟨st.slots,up st.heap id (.cells vs')⟩ tm (w.setRow b cs') ∧ Step o w o (w.setRow b cs'):=by
  obtain ⟨ho,_⟩:=hr.hp.cells hid hb
  have hst:Step o w o (w.setRow b cs'):=setRow_grow hw ho
  have hbs:b < w.heap.size:=(Array.getElem?_eq_some_iff.1 hw).1
  refine ⟨⟨⟨by simpa using hr.gl.size,fun b' hb' => ?_,fun b' hb' => by simpa using hr.gl.fin b' hb'⟩,hr.len,fun j => (hr.slot j).mono hst.stab fun _ _ h => h,fun j k => (hr.cap j k).setRow ho (by simp),⟨by simp [hr.hp.sigl],?_⟩⟩,hst⟩
  · obtain ⟨h1,h2⟩:=hr.gl.keep b' hb'
    refine ⟨?_,h2⟩
    rw [setRow_other w b b' cs' (by rintro rfl; rw [ho] at h2; simp at h2)]; exact h1
  · intro id' ob' hid'
    rw [up_eq,List.getElem?_set] at hid'
    by_cases e:id = id'
    · subst e
      rw [if_pos rfl] at hid'
      have:id < st.heap.length:=(List.getElem?_eq_some_iff.1 hid).1
      rw [if_pos this] at hid'
      simp at hid'; subst hid'
      exact ⟨b,hb,ho,cs',T,setRow_heap w b cs cs' T _ hw,hl,fun off hoff => by
        obtain ⟨h1,h2,h3⟩:=hv off hoff
        exact ⟨h1.mono hst.stab fun _ _ h => h,h2.setRow ho (by simp),h3⟩⟩
    · rw [if_neg e] at hid'
      obtain ⟨b',h1,h2,h3⟩:=hr.hp.obj id' ob' hid'
      have hne:b' ≠ b:=by
        rintro rfl
        rw [ho] at h2; simp at h2; exact e h2
      refine ⟨b',h1,h2,?_⟩
      cases ob' with
      | cells us =>
        obtain ⟨cs2,T2,h4,h5,h6⟩:=h3
        exact ⟨cs2,T2,by rw [setRow_other w b b' cs' hne]; exact h4,h5,fun off hoff => ⟨(h6 off hoff).1.mono hst.stab fun _ _ h => h,(h6 off hoff).2.1.setRow ho (by simp),(h6 off hoff).2.2⟩⟩
      | iter s pos => unfold ObjEnc at *; rw [setRow_other w b b' cs' hne]; exact h3
theorem Enc.oneCell {v:DV} {x:Value} (h:Enc o w v x) (hs:v.scalar = true):x.oneCell' = true:=by
  cases h <;> first | rfl | simp [DV.scalar] at hs
theorem PEnc.oneCell {v:PV} {x:Value} (h:PEnc o w sig v x) (hs:v.cellOk = true):x.oneCell' = true:=by
  cases h with
  | d h => exact h.oneCell hs
  | own h => exact h.oneCell rfl
  | ptr h => rfl
  | ro ys hx hc hs => rfl
  | func hn h => rfl
  | bnd h => rfl
  | tup h => simp [PV.cellOk] at hs
  | undef => simp [PV.cellOk] at hs
  | skp => simp [PV.cellOk] at hs
theorem gt_mid (vs us:List PV) (off j:Nat) (h:off + us.length ≤ vs.length):gt .undef (tk vs off ++ (us ++ dr vs (off + us.length))) j = if off ≤ j ∧ j < off + us.length then gt .undef us (j - off) else gt .undef vs j:=by
  rw [tk_eq,dr_eq]
  simp only [gt_eq]
  have hl:(vs.take off).length = off:=by simp; omega
  by_cases h1:j < off
  · rw [if_neg (by omega),List.getElem?_append_left (by omega),List.getElem?_take,if_pos h1]
  · by_cases h2:j < off + us.length
    · rw [if_pos ⟨by omega,h2⟩,List.getElem?_append_right (by omega),hl,List.getElem?_append_left (by omega)]
    · rw [if_neg (by omega),List.getElem?_append_right (by omega),hl,List.getElem?_append_right (by omega),List.getElem?_drop]
      congr 2; omega
theorem getD_mid (cs:Array Value) (ys:List Value) (off j:Nat) (h:off + ys.length ≤ cs.size):(cs.toList.take off ++ ys ++ cs.toList.drop (off + ys.length)).toArray.getD j undef = if off ≤ j ∧ j < off + ys.length then ys.getD (j - off) undef else cs.getD j undef:=by
  have hl:(cs.toList.take off).length = off:=by simp; omega
  simp only [Array.getD_eq_getD_getElem?,List.getElem?_toArray,List.getD_eq_getElem?_getD,List.append_assoc]
  by_cases h1:j < off
  · rw [if_neg (by omega),List.getElem?_append_left (by omega),List.getElem?_take,if_pos h1]; simp
  · by_cases h2:j < off + ys.length
    · rw [if_pos ⟨by omega,h2⟩,List.getElem?_append_right (by omega),hl,List.getElem?_append_left (by omega)]
    · rw [if_neg (by omega),List.getElem?_append_right (by omega),hl,List.getElem?_append_right (by omega),List.getElem?_drop]
      have:off + ys.length + (j - off - ys.length) = j:=by omega
      rw [this]; simp
theorem up_mid (vs:List PV) (off:Nat) (v:PV) (h:off < vs.length):up vs off v = tk vs off ++ ([v] ++ dr vs (off + [v].length)):=by
  rw [up_eq,tk_eq,dr_eq]
  rw [List.set_eq_take_append_cons_drop,if_pos h]; rfl
theorem store_cells (hr:Rel W0 o sig st tm w) {id b off:Nat} {vs us:List PV} (hid:st.heap[id]? = some (.cells vs)) (hb:sig[id]? = some b) (ys:List Value) (hle:off + us.length ≤ vs.length) (hy:ys.length = us.length)
    (hu:∀ j,j < us.length → PEnc o w sig (gt .undef us j) (ys.getD j undef) ∧ Cap o w (.cell id (off + j)) (gt .undef us j) (ys.getD j undef) ∧ (gt .undef us j).cellOk = true) :
    ∃ w',(storeCells ⟨b,off,none⟩ ys).run P w = .ok () w' ∧ Rel W0 o sig ⟨st.slots,up st.heap id (.cells (tk vs off ++ (us ++ dr vs (off + us.length))))⟩ tm w' ∧ Step o w o w':=by
  obtain ⟨ho,cs,T,hw,hcs,hcv⟩:=hr.hp.cells hid hb
  have hone:∀ v ∈ ys,v.oneCell' = true:=by
    intro y hyy
    obtain ⟨j,hj,rfl⟩:=List.getElem_of_mem hyy
    obtain ⟨h1,_,h3⟩:=hu j (by omega)
    have:ys.getD j undef = ys[j]:=by simp [List.getD,hj]
    rw [this] at h1
    exact h1.oneCell h3
  have hrun:=run_storeCells_at P b off T ys 0 cs w hw (by omega) hone
  simp only [Nat.add_zero] at hrun
  have:=hr.setObj (vs':=tk vs off ++ (us ++ dr vs (off + us.length))) (cs':=(cs.toList.take off ++ ys ++ cs.toList.drop (off + ys.length)).toArray) hid hb hw (by rw [tk_eq,dr_eq]; simp; omega) (by
    intro j hj
    rw [gt_mid vs us off j hle,getD_mid cs ys off j (by omega),hy]
    by_cases h1:off ≤ j ∧ j < off + us.length
    · rw [if_pos h1,if_pos h1]
      obtain ⟨e1,e2,e3⟩:=hu (j - off) (by omega)
      rw [show off + (j - off) = j by omega] at e2
      exact ⟨e1,e2,e3⟩
    · rw [if_neg h1,if_neg h1]
      refine hcv j ?_
      rw [tk_eq,dr_eq] at hj
      simp at hj; omega)
  exact ⟨_,hrun,this.1,this.2⟩
end
end Go.PS
end

section
namespace Go.PS
open Go.RowKit
section
variable {P:Program} {C:Ctx} {W0:World} {o:Own} {sig:List Nat} {st:St} {a:Act} {w:World} {R:Type} {tm:Array Value}
  {oper:Oper} {kp:DV → List PObj → Option R} {k:St → Option R} {r:R} {next:Act → World → Prop} {Q:Exit → Act → World → Prop}
theorem Conts.step {o' : Own} (hc:Conts W0 o sig w a oper kp k r next Q) (hst:Step o w o' w):Conts W0 o' sig w a oper kp k r next Q :=
  ⟨fun x st' o' sig' w' e1 e2 e3 e4 => hc.hk x st' o' sig' w' e1 e2 (hst.trans e3) e4,fun v x hp' o' sig' w' e1 e2 e3 e4 e5 e6 => hc.hp v x hp' o' sig' w' e1 e2 e3 e4 (hst.trans e5) e6⟩
theorem noAgg_of_one {X:Value} (h:X.oneCell' = true):∀ cs,X ≠ .agg cs:=by rintro cs rfl; simp [Value.oneCell'] at h
theorem wp_store (hC:TyOk P C) (hr:Rel W0 o sig st a.tmps w) (hc:Conts W0 o sig w a oper kp k r next Q) {t:TypeId} {ad x:Operand} (ho:oper.op = .store t ad x)
    (h:(match ev st ad with
    | .ptr id off => heapCells st.heap id fun cs => bif Nat.beq (C.ty t).size 0 then none else bif isScalar (C.ty t).ty then
        (bif Nat.beq (C.ty t).size 1 && Nat.ble (off + 1) cs.length then (match ev st x with
          | .own sz vs => (match (generalizing:=false) x with
            | .tmp u => k (St.put ⟨up st.slots u (.d (.slc sz vs)),up st.heap id (.cells (up cs off (.own sz vs)))⟩ oper.dst .undef)
            | _ => k (St.put ⟨st.slots,up st.heap id (.cells (up cs off (.own (C.esz t) [])))⟩ oper.dst .undef))
          | .d v => bif v.scalar then k (St.put ⟨st.slots,up st.heap id (.cells (up cs off (toCell v)))⟩ oper.dst .undef) else none
          | v => bif v.cellOk then k (St.put ⟨st.slots,up st.heap id (.cells (up cs off v))⟩ oper.dst .undef) else none) else none)
      else (match ev st x with
        | .d (.agg vs) => bif (Nat.beq vs.length (C.ty t).size && Nat.ble (off + vs.length) cs.length) then
            k (St.put ⟨st.slots,up st.heap id (.cells (tk cs off ++ (toCells vs ++ dr cs (off + vs.length))))⟩ oper.dst .undef) else none
        | _ => none)
    | _ => none) = some r):oper.wp P a w next Q:=by
  split at h
  · rename_i id off he
    obtain ⟨cs,hid,h⟩:=heapCells_inv h
    obtain ⟨A,hA,hxa⟩:=hr.evx ad he
    obtain ⟨b,hb,rfl⟩:=hxa.ptr_inv
    rw [bif_none_some] at h
    obtain ⟨hz,h⟩:=h
    have hz:(C.ty t).size ≠ 0:=by intro e; rw [e] at hz; simp at hz
    obtain ⟨i,hi,his,_⟩:=hC.info t hz
    have hrun:∀ {X:Value} {w' : World},a.eval x = X → X.cells.size = (C.ty t).size → (storeCells ⟨b,off,none⟩ X.cells.toList).run P w = .ok () w' → (execOp a.eval oper).run P w = .ok .skip w':=by
      intro X w' hX hs hst
      simp [execOp,ho,hA,hX,Instr.storeAt,Instr.sureAddr,storeVar,sizeOf,typeInfo,hi,his,hs,hst]
    clear ho
    cases hsc:isScalar (C.ty t).ty
    · rw [hsc] at h
      simp only [cond_false] at h
      split at h
      · rename_i vs hv
        rw [bif_some] at h
        obtain ⟨hl,h⟩:=h
        simp only [Bool.and_eq_true] at hl
        have hl1:=Nat.eq_of_beq_eq_true hl.1
        have hl2:=Nat.le_of_ble_eq_true hl.2
        obtain ⟨X,hX,hx⟩:=hr.evx x hv
        have hx:=hx.d_inv
        have hxc:=hx.cells
        have hxs:=hx.scalars
        simp only [DV.cells] at hxc hxs
        have hlen:=hxc.length
        rw [← toCells_length] at h
        obtain ⟨w',h1,h2,h3⟩:=store_cells (P:=P) hr hid hb (us:=toCells vs) X.cells.toList (by rw [toCells_length]; exact hl2) (by rw [toCells_length,hlen]) (by
          intro j hj
          rw [toCells_length] at hj
          obtain ⟨y,hy,hye⟩:=hxc.get (List.getElem?_eq_getElem hj)
          rw [gt_toCells,List.getElem?_eq_getElem hj,List.getD_eq_getElem?_getD,hy]
          exact ⟨toCell_enc hye,toCell_cap hye _,toCell_ok (hxs _ (List.getElem_mem hj))⟩)
        exact wp_skip' (hrun hX (by rw [← hl1,hlen]; simp) h1) (hc.hk undef _ o sig w' h (h2.put_plain .undef trivial (by simp)) h3 (.refl _))
      · simp at h
    · rw [hsc] at h
      simp only [cond_true] at h
      rw [bif_some] at h
      obtain ⟨hl,h⟩:=h
      simp only [Bool.and_eq_true] at hl
      have hl1:=Nat.eq_of_beq_eq_true hl.1
      have hl2:=Nat.le_of_ble_eq_true hl.2
      have one:∀ {o' : Own} {st0:St} {v:PV} {X:Value},Rel W0 o' sig st0 a.tmps w → st0.heap = st.heap → Step o w o' w → a.eval x = X → PEnc o' w sig v X → Cap o' w (.cell id off) v X → v.cellOk = true →
          k (St.put ⟨st0.slots,up st.heap id (.cells (up cs off v))⟩ oper.dst .undef) = some r → oper.wp P a w next Q:=by
        intro o' st0 v X hr0 hh hst0 hX hv hcp hok hk
        have hone:=hv.oneCell hok
        have hcell:=cells_single (noAgg_of_one hone)
        rw [up_mid cs off v (by omega),← hh] at hk
        obtain ⟨w',h1,h2,h3⟩:=store_cells (P:=P) hr0 (us:=[v]) (by rw [hh]; exact hid) hb [X] (by simpa using hl2) rfl (by
          intro j hj
          simp at hj; subst hj
          exact ⟨hv,hcp,hok⟩)
        exact wp_skip' (hrun hX (by rw [hcell,hl1]; rfl) (by rw [hcell]; exact h1)) ((hc.step hst0).hk undef _ o' sig w' hk (h2.put_plain .undef trivial (by simp)) h3 (.refl _))
      split at h
      · rename_i sz vs hv
        obtain ⟨X,hX,hx⟩:=hr.evx x hv
        cases x with
        | tmp u =>
          dsimp only at h
          have htm:a.tmps.getD u undef = X:=hX
          have hcap:=hr.cap u 0
          have hv' : gt .undef st.slots u = .own sz vs:=hv
          rw [hv',htm] at hcap
          have hcap:Cap o w (.slot u 0) (.own sz vs) X:=hcap.cmp0 (by simp)
          have h1:=hr.setPS (d:=u) (v:=.d (.slc sz vs)) (by rw [htm]; exact hx.plain) (fun k => cap_cmp_noOwn (v:=.d (.slc sz vs)) trivial (by simp) k)
          let φ:Pl → Pl:=fun p => match p with | .slot j k => if j = u ∧ k = 0 then .cell id off else .slot j k | p => p
          have h2:Rel W0 (rel φ o) sig (st.set u (.d (.slc sz vs))) a.tmps w:=by
            refine h1.relabel φ (fun j k hn => ?_) (fun _ => rfl) fun _ _ _ _ _ _ => rfl
            show (if j = u ∧ k = 0 then _ else _) = _
            rw [if_neg]
            rintro ⟨rfl,rfl⟩
            exact hn (St.set_gt (v:=.d (.slc sz vs)) trivial (by simp) 0)
          exact one (v:=.own sz vs) h2 rfl (rel_step rfl) hX (hx.mono (fun _ _ _ h => rel_stab h) fun _ _ h => h) (cap_rel hcap (by simp [φ])) rfl h
        | const c =>
          have hXc:X = .slice none 0 0:=by
            obtain ⟨_,h2⟩:=ofConst_shape c
            have he:ofConst c = .own sz vs:=hv
            rcases h2 with h2 | ⟨_,rfl⟩
            · rw [he] at h2; exact h2.elim
            · exact hX.symm
          subst hXc
          exact one (v:=.own (C.esz t) []) hr rfl (.refl _ _) hX (.own (.slcNil _)) trivial rfl h
        | func f => simp [PS.ev] at hv
        | global g => simp [PS.ev] at hv
      · rename_i v hv
        rw [bif_some] at h
        obtain ⟨X,hX,hx⟩:=hr.evx x hv
        have hx:=hx.d_inv
        exact one hr rfl (.refl _ _) hX (toCell_enc hx) (toCell_cap hx _) (toCell_ok h.1) h.2
      · rename_i v hn1 hn2
        rw [bif_some] at h
        refine one hr rfl (.refl _ _) rfl (hr.ev x) (Cap.of_noOwn ?_) h.1 h.2
        cases hv' : ev st x <;> first | trivial | (rename_i sz vs; exact absurd hv' (hn1 sz vs))
  · simp at h
theorem wp_panicOp (hr:Rel W0 o sig st a.tmps w) (hc:Conts W0 o sig w a oper kp k r next Q) {x:Operand} (ho:oper.op = .panic x)
    (h:(match ev st x with
    | .d (.iface t v) => kp (.iface t v) st.heap
    | _ => none) = some r):oper.wp P a w next Q:=by
  split at h
  · rename_i t v he
    obtain ⟨X,hX,hx⟩:=hr.evx x he
    have hx:=hx.d_inv
    cases hx with | iface _ _ y hy =>
    refine wp_pan (x:=.iface t y) (w':=w) ?_ (hc.hp _ _ _ o sig w h (.iface t v y hy) hr.hp hr.gl (.refl _ _) (.refl _))
    simp [execOp,ho,hX,Instr.panic]
  · simp at h
theorem wp_range (hC:TyOk P C) (hr:Rel W0 o sig st a.tmps w) (hc:Conts W0 o sig w a oper kp k r next Q) {t:TypeId} {x:Operand} (ho:oper.op = .range t x)
    (h:(match (C.ty t).ty,ev st x with
    | .str,.d (.str s) => k (St.put ⟨st.slots,st.heap ++ [.iter s 0]⟩ oper.dst (.ptr st.heap.length 0))
    | _,_ => none) = some r):oper.wp P a w next Q:=by
  split at h
  · rename_i s ht he
    obtain ⟨X,hX,hx⟩:=hr.evx x he
    obtain ⟨rfl,hl⟩:=hx.str_inv
    have hrun:(execOp a.eval oper).run P w = .ok (.value (.pointer (some ⟨w.heap.size,0,none⟩))) (w.alloc (.stringIter ⟨s.toArray⟩ 0)):=by
      simp [execOp,ho,hX,Instr.range,run_underlying (hC.str t ht)]
    have hg:=Grow.obj hr.gl (.stringIter ⟨s.toArray⟩ 0) (0,.obj st.heap.length)
    have h1:=hr.grow hg
    have hn:own1 o w.heap.size (0,.obj st.heap.length) w.heap.size = some (0,.obj st.heap.length):=by simp [own1]
    have h2:=h1.addObj (ob:=.iter s 0) hn (alloc_heap w _)
    refine wp_value hrun (hc.hk _ _ _ _ _ h (h2.put_plain (.ptr ?_) trivial (by simp)) hg.step (SigExt.snoc sig _))
    rw [List.getElem?_append_right (by rw [hr.hp.sigl]; exact Nat.le_refl _)]; simp [hr.hp.sigl]
  · simp at h
end
end Go.PS
end

section
namespace Go.PS
open Go.RowKit
section
variable {P:Program} {C:Ctx} {W0:World} {o:Own} {sig:List Nat} {st:St} {a:Act} {w:World} {R:Type} {tm:Array Value}
  {oper:Oper} {kp:DV → List PObj → Option R} {k:St → Option R} {r:R} {next:Act → World → Prop} {Q:Exit → Act → World → Prop}
theorem run_room (t tx ty e:TypeId) (i:TypeInfo) (T:TypeId) (ht:P.underlying t = some (.slice e)) (hi:P.info? e = some i) (b sLen sCap:Nat) (cs:Array Value) (hb:w.heap[b]? = some (.cells cs T (0,0))) (x:Value) (n:Nat) (news:List Value) (hs:Src P i.size tx x n news w)
    (hroom:sLen + n ≤ sCap) (hfit:sLen * i.size + news.length ≤ cs.size) :
    (Builtin.append_ #[t,tx] ty #[.slice (some ⟨b,0,none⟩) sLen sCap,x]).run P w = .ok (.slice (some ⟨b,0,none⟩) (sLen + n) sCap) (w.setRow b (cs.toList.take (sLen * i.size) ++ news ++ cs.toList.drop (sLen * i.size + news.length)).toArray):=by
  have hst:=run_storeCells_at P b (sLen * i.size) T news 0 cs w hb (by simpa using hfit) hs.one
  simp only [Nat.add_zero] at hst
  rcases hs.kind with ⟨e',hk⟩ | hk <;> simp [Builtin.append_,run_underlying ht,run_underlying hk,sizeOf,typeInfo,hi,hs.len,hroom,hs.cells,addr_add,hst]
theorem run_nothing (t tx ty e:TypeId) (i:TypeInfo) (ht:P.underlying t = some (.slice e)) (hi:P.info? e = some i) (base:Option Addr) (sLen sCap:Nat) (x:Value) (hs:Src P i.size tx x 0 [] w) (hroom:sLen ≤ sCap) :
    (Builtin.append_ #[t,tx] ty #[.slice base sLen sCap,x]).run P w = .ok (.slice base sLen sCap) w:=by
  cases base <;> rcases hs.kind with ⟨e',hk⟩ | hk <;> simp [Builtin.append_,run_underlying ht,run_underlying hk,sizeOf,typeInfo,hi,hs.len,hroom,hs.cells,storeCells]
def Free (st:St):Pl → Prop
  | .slot j k => (cmpV (gt .undef st.slots j) k).noOwn
  | .cell id off => ∀ vs,st.heap[id]? = some (.cells vs) → (gt .undef vs off).noOwn
  | _ => False
def own2 (o:Own) (b:Nat) (x:Nat × Pl):Own:=fun c => if c = b then some x else o c
theorem Free.ne_obj {p:Pl} (h:Free st p) (id:Nat):p ≠ .obj id:=by rintro rfl; exact h
theorem Cap.free {b lo lo' : Nat} {p q q' : Pl} {cs:Array Value} (ho:o b = some (lo,p)) (hne:q ≠ p) {v:PV} {x:Value} (h:Cap o w q v x):Cap (own2 o b (lo',q')) (w.setRow b cs) q v x:=by
  unfold Cap at *
  split
  · intro hn
    obtain ⟨h0,h1,cs',T,h2,h3⟩:=h hn
    rename_i sz0 vs0 ad n c
    have hb:ad.block ≠ b:=by
      intro e
      rw [e,ho] at h1
      simp at h1
      exact hne h1.2.symm
    exact ⟨h0,by simp [own2,hb,h1],cs',T,by rw [setRow_other w b _ cs hb]; exact h2,h3⟩
  · trivial
theorem Rel.grown (hr:Rel W0 o sig st tm w) {b lo lo' : Nat} {p q' : Pl} {cs cs' : Array Value} {T:TypeId} (hb:w.heap[b]? = some (.cells cs T (0,0))) (ho:o b = some (lo,p)) (hf:Free st p) (hle:lo ≤ lo')
    (hsame:∀ j,j < lo → cs'[j]? = cs[j]?) (hq:∀ id,q' ≠ .obj id):Rel W0 (own2 o b (lo',q')) sig st tm (w.setRow b cs') ∧ Step o w (own2 o b (lo',q')) (w.setRow b cs'):=by
  have hbs:b < w.heap.size:=(Array.getElem?_eq_some_iff.1 hb).1
  have hpext:¬ Prot (o b):=by
    rw [ho]
    cases p <;> first | exact hf.elim | simp [Prot]
  have hst:Step o w (own2 o b (lo',q')) (w.setRow b cs'):=by
    refine ⟨rfl,rfl,rfl,by simp,fun b' _ hp => ?_,fun b' off x hx => ?_⟩
    · have hne:b' ≠ b:=by rintro rfl; exact hpext hp
      exact ⟨setRow_other w b b' cs' hne,by simp [own2,hne]⟩
    · by_cases e:b' = b
      · subst e
        have hlt:=hx.2 lo p ho
        refine ⟨?_,fun l q hl => by simp [own2] at hl; omega⟩
        have h1:=hx.1
        simp only [World.cell?,hb] at h1
        simp only [World.cell?,setRow_heap w b' cs cs' T _ hb]
        simpa [hsame off hlt] using h1
      · refine ⟨?_,fun l q hl => hx.2 l q (by simpa [own2,e] using hl)⟩
        rw [World.cell?_of_block (w:=w) (setRow_other w b b' cs' e)]; exact hx.1
  refine ⟨⟨⟨by simpa using hr.gl.size,fun b' hb' => ?_,fun b' hb' => ?_⟩,hr.len,fun j => (hr.slot j).mono hst.stab fun _ _ h => h,fun j k => ?_,⟨hr.hp.sigl,fun id ob hid => ?_⟩⟩,hst⟩
  · obtain ⟨h1,h2⟩:=hr.gl.keep b' hb'
    have hne:b' ≠ b:=by rintro rfl; rw [ho] at h2; simp at h2
    exact ⟨by rw [setRow_other w b b' cs' hne]; exact h1,by simp [own2,hne,h2]⟩
  · simp only [setRow_size]
    unfold own2 at hb'
    split at hb'
    · subst_vars; exact hbs
    · exact hr.gl.fin b' hb'
  · by_cases e:Pl.slot j k = p
    · subst e; exact Cap.of_noOwn hf
    · exact (hr.cap j k).free ho e
  · obtain ⟨b',h1,h2,h3⟩:=hr.hp.obj id ob hid
    have hne:b' ≠ b:=by
      rintro rfl
      rw [ho] at h2; simp at h2
      exact hf.ne_obj id h2.2
    refine ⟨b',h1,by simp [own2,hne,h2],?_⟩
    cases ob with
    | cells us =>
      obtain ⟨cs2,T2,h4,h5,h6⟩:=h3
      refine ⟨cs2,T2,by rw [setRow_other w b b' cs' hne]; exact h4,h5,fun off hoff => ⟨(h6 off hoff).1.mono hst.stab fun _ _ h => h,?_,(h6 off hoff).2.2⟩⟩
      by_cases e:Pl.cell id off = p
      · subst e; exact Cap.of_noOwn (hf us hid)
      · exact (h6 off hoff).2.1.free ho e
    | iter s pos => unfold ObjEnc at *; rw [setRow_other w b b' cs' hne]; exact h3
theorem append_does (hC:TyOk P C) (hr:Rel W0 o sig st tm w) {t tx e:TypeId} (ty:TypeId) (d:Nat) (ht:(C.ty t).ty = .slice e) (hz:(C.ty e).zero ≠ []) {p:Pl} {vs:List DV} {X:Value} (hX:Enc o w (.slc (C.ty e).size vs) X) (hcap:Cap o w p (.own (C.ty e).size vs) X) (hf:Free st p)
    {x:Value} {xs:List DV} {ys:List Value} (hs:Src P (C.ty e).size tx x xs.length (flat ys) w) (hys:EncL o w xs ys) (hyz:Sized (C.ty e).size ys)
    (hlim:(vs.length + xs.length) * (C.ty e).bytes ≤ 140737488355328) (hlen:vs.length + xs.length ≤ 9223372036854775807) :
    ∃ y o' w',(Builtin.append_ #[t,tx] ty #[X,x]).run P w = .ok y w' ∧ Rel W0 o' sig st tm w' ∧ Step o w o' w' ∧ Enc o' w' (.slc (C.ty e).size (vs ++ xs)) y ∧ Cap o' w' (.slot d 0) (.own (C.ty e).size (vs ++ xs)) y:=by
  obtain ⟨hu,hne⟩:=hC.slice t e ht
  obtain ⟨i,z,hi,hiz,his,hze⟩:=hC.zero e hz
  obtain ⟨i2,hi2,_,hib⟩:=hC.info e hne
  rw [hi] at hi2; simp at hi2; subst hi2
  have hzc:=(hze o w).cells_size
  rw [hC.zeroSz e hz] at hzc
  have hpos:0 < (C.ty e).size:=Nat.pos_of_ne_zero hne
  have hnl:=flat_length hyz
  have hxl:=hys.length
  rw [← his] at hs
  -- the old cells
  obtain ⟨ad,cap,olds,hXe,hcap1,hcm,hoe,hos,hold,hrow⟩:∃ ad cap olds,X = .slice ad vs.length cap ∧ vs.length ≤ cap ∧ cap ≤ 9223372036854775807 ∧ EncL o w vs olds ∧ Sized (C.ty e).size olds ∧
      (Builtin.firstCells i.size vs.length (.slice ad vs.length cap)).run P w.drew = .ok (flat olds).toArray w.drew ∧
      ((vs = [] ∧ cap = 0) ∨ ∃ b off,ad = some ⟨b,off,none⟩ ∧ ∀ (j:Nat) v,(flat olds)[j]? = some v → Stab o w b (off + j) v):=by
    rcases hX.slc_inv with ⟨rfl,ad,rfl⟩ | ⟨b,off,cap,olds,rfl,h1,h2,h3,h4⟩
    · exact ⟨ad,0,[],rfl,by simp,by omega,.nil,(by intro y hy; simp at hy),(by cases ad with | none => rw [run_firstCells_none]; rfl | some a => exact run_firstCells_some (P:=P) w.drew i.size 0 a 0 0 [] (by simp) (fun j v hj => by simp at hj)),.inl ⟨rfl,rfl⟩⟩
    · have hos:Sized (C.ty e).size olds:=by
        intro y hy
        obtain ⟨j,hj,rfl⟩:=List.getElem_of_mem hy
        exact (h4 j _ (List.getElem?_eq_getElem hj)).1
      have hst:∀ (j:Nat) v,(flat olds)[j]? = some v → Stab o w b (off + j) v:=by
        intro j v hj
        have hjl:=(List.getElem?_eq_some_iff.1 hj).1
        rw [flat_length hos] at hjl
        have hq:j / (C.ty e).size < olds.length:=(Nat.div_lt_iff_lt_mul hpos).2 hjl
        obtain ⟨h5,h6⟩:=h4 _ _ (List.getElem?_eq_getElem hq)
        have hjm:j % (C.ty e).size < olds[j / (C.ty e).size].cells.size:=by rw [h5]; exact Nat.mod_lt _ hpos
        have h7:=h6 _ _ (Array.getElem?_eq_getElem hjm)
        have h8:=flat_get hos (List.getElem?_eq_getElem hq) _ _ (Array.getElem?_eq_getElem hjm)
        have hdm:j / (C.ty e).size * (C.ty e).size + j % (C.ty e).size = j:=by rw [Nat.mul_comm]; exact Nat.div_add_mod _ _
        rw [hdm] at h8
        rw [h8] at hj; simp at hj; subst hj
        rw [Nat.add_assoc,hdm] at h7
        exact h7
      refine ⟨_,cap,olds,rfl,h1,h2,h3,hos,?_,.inr ⟨b,off,rfl,hst⟩⟩
      refine run_firstCells_some (P:=P) w.drew i.size vs.length ⟨b,off,none⟩ vs.length cap (flat olds) (by rw [flat_length hos,his,h3.length]) (fun j v hj => ?_)
      rw [addr_add,World.cell?_drew]
      exact (hst j v hj).1
  subst hXe
  have hol:=hoe.length
  have hsall:Sized (C.ty e).size (olds ++ ys):=by
    intro y hy; simp at hy; rcases hy with hy | hy
    · exact hos y hy
    · exact hyz y hy
  have hfol:=flat_length hos
  by_cases hroom:vs.length + xs.length ≤ cap
  · by_cases hlt:vs.length < cap
    · -- into the row
      rcases hrow with ⟨_,h0⟩ | ⟨b,off,rfl,hst⟩
      · omega
      · obtain ⟨c0,c1,cs,T,c2,c3⟩:=hcap hlt
        dsimp only at c0 c1 c2
        subst c0
        have hfit:vs.length * (C.ty e).size + (flat ys).length ≤ cs.size:=by
          rw [c3,hnl,← hxl,← Nat.add_mul]; exact Nat.mul_le_mul_right _ hroom
        have hrun:=run_room (P:=P) t tx ty e i T hu hi b vs.length cap cs c2 x xs.length (flat ys) hs hroom (by rw [his]; exact hfit)
        rw [his] at hrun
        have hlo:vs.length * (C.ty e).size ≤ (vs.length + xs.length) * (C.ty e).size:=Nat.mul_le_mul_right _ (by omega)
        have hg:=hr.grown (lo':=(vs.length + xs.length) * (C.ty e).size) (q':=.slot d 0) (cs':=(cs.toList.take (vs.length * (C.ty e).size) ++ flat ys ++ cs.toList.drop (vs.length * (C.ty e).size + (flat ys).length)).toArray) c2 c1 hf hlo (fun j hj => by
          simp only [List.getElem?_toArray,List.append_assoc]
          rw [List.getElem?_append_left (by simp; omega),List.getElem?_take,if_pos hj,Array.getElem?_toList]) (by simp)
        have hheap:=setRow_heap w b cs (cs.toList.take (vs.length * (C.ty e).size) ++ flat ys ++ cs.toList.drop (vs.length * (C.ty e).size + (flat ys).length)).toArray T _ c2
        have hpre:cs.toList.take (vs.length * (C.ty e).size) = flat olds:=by
          apply List.ext_getElem?
          intro j
          by_cases hj:j < (flat olds).length
          · have h1:=(hst j _ (List.getElem?_eq_getElem hj)).1
            simp only [World.cell?,c2,Nat.zero_add] at h1
            rw [List.getElem?_take,if_pos (by rw [hol,← hfol]; exact hj),Array.getElem?_toList,List.getElem?_eq_getElem hj]
            simpa using h1
          · have hv:vs.length * (C.ty e).size = (flat olds).length:=by rw [hfol,hol]
            have h1:(cs.toList.take (vs.length * (C.ty e).size)).length ≤ j:=by rw [List.length_take,hv]; omega
            have h2:(flat olds).length ≤ j:=by omega
            rw [List.getElem?_eq_none h1,List.getElem?_eq_none h2]
        refine ⟨_,_,_,hrun,hg.1,hg.2,?_,?_⟩
        · have:=Enc.row (o:=own2 o b ((vs.length + xs.length) * (C.ty e).size,.slot d 0)) (cap:=cap) ((hoe.append hys).mono hg.2.stab) hsall hheap ⟨cs.toList.drop (vs.length * (C.ty e).size + (flat ys).length),by rw [List.toList_toArray,hpre,flat_append]⟩ (by simpa using hroom) hcm (fun lo p hl => by simp [own2] at hl; simp; omega)
          simpa using this
        · intro _
          refine ⟨rfl,by simp [own2],_,T,hheap,?_⟩
          rw [← c3]
          simp; omega
    · have h0:xs.length = 0:=by omega
      have hx0:xs = []:=List.eq_nil_of_length_eq_zero h0
      subst hx0
      have hy0:ys = []:=by cases hys; rfl
      subst hy0
      have hrun:=run_nothing (P:=P) t tx ty e i hu hi ad vs.length cap x (by simpa [flat] using hs) hcap1
      refine ⟨_,o,w,hrun,hr,.refl _ _,by rw [List.append_nil]; exact hX,?_⟩
      cases ad with
      | none => trivial
      | some ad => intro h; exact absurd h hlt
  · have hrun:=run_append_grow_src (P:=P) w t tx ty e i z hu hi hiz ad vs.length cap (flat olds) hold x xs.length (flat ys) hs (by omega) (by omega) (growslice_fits (by omega) (by rw [hib]; exact hlim))
    have hcge:=grownCap_ge w (vs.length + xs.length) cap e
    have hcle:=grownCap_le_maxLen w (vs.length + xs.length) cap e (by unfold maxLen; omega)
    unfold maxLen at hcle
    have hgd:=Grow.drew hr.gl
    have hrd:=hr.grow hgd
    have hg:=Grow.obj hrd.gl (.cells ((flat olds ++ flat ys).toArray ++ Builtin.zeroCells z.cells (grownCap w (vs.length + xs.length) cap e - (vs.length + xs.length))) e) ((vs.length + xs.length) * (C.ty e).size,.slot d 0)
    have hr2:=hrd.grow hg
    have hst:=hgd.step.trans hg.step
    have hheap:=alloc_heap w.drew (.cells ((flat olds ++ flat ys).toArray ++ Builtin.zeroCells z.cells (grownCap w (vs.length + xs.length) cap e - (vs.length + xs.length))) e)
    refine ⟨_,_,_,hrun,hr2,hst,?_,?_⟩
    · have:=Enc.row (o:=own1 o w.heap.size ((vs.length + xs.length) * (C.ty e).size,.slot d 0)) (b:=w.heap.size) (cap:=grownCap w (vs.length + xs.length) cap e) ((hoe.append hys).mono hst.stab) hsall hheap ⟨_,by rw [Array.toList_append,List.toList_toArray,flat_append]⟩ (by simpa using hcge) hcle (fun lo p hl => by simp [own1] at hl; simp; omega)
      simpa using this
    · intro _
      refine ⟨rfl,by simp [own1],_,e,hheap,?_⟩
      simp only [Array.size_append,List.size_toArray,List.length_append,size_zeroCells,hzc,hnl,hfol,← hol,← hxl,← Nat.add_mul]
      congr 1; omega
end
end Go.PS
end

section
namespace Go.PS
open Go.RowKit
section
variable {P:Program} {C:Ctx} {W0:World} {o:Own} {sig:List Nat} {st:St} {a:Act} {w:World} {R:Type} {tm:Array Value}
  {oper:Oper} {kp:DV → List PObj → Option R} {k:St → Option R} {r:R} {next:Act → World → Prop} {Q:Exit → Act → World → Prop}
def SyncAt (a:Act) (w:World) (t:Nat):Org → Prop
  | .self => True
  | .slot v => a.tmps.getD t undef = a.tmps.getD v undef
  | .cell ad => ∀ b off,a.tmps.getD ad undef = .pointer (some ⟨b,off,none⟩) → w.cell? ⟨b,off,none⟩ = some (a.tmps.getD t undef)
theorem Rel.plainCell (hr:Rel W0 o sig st tm w) {id off sz:Nat} {cs:List PV} {vs:List DV} (hid:st.heap[id]? = some (.cells cs)) (hc:gt .undef cs off = .own sz vs) :
    Rel W0 o sig ⟨st.slots,up st.heap id (.cells (up cs off (.d (.slc sz vs))))⟩ tm w:=by
  refine ⟨hr.gl,hr.len,hr.slot,hr.cap,⟨by simp [hr.hp.sigl],fun id' ob hid' => ?_⟩⟩
  rw [up_eq,List.getElem?_set] at hid'
  by_cases e:id = id'
  · subst e
    rw [if_pos rfl,if_pos (List.getElem?_eq_some_iff.1 hid).1] at hid'
    simp at hid'; subst hid'
    obtain ⟨b,h1,h2,arr,T,h4,h5,h6⟩:=hr.hp.obj id _ hid
    refine ⟨b,h1,h2,arr,T,h4,by simpa using h5,fun off' hoff' => ?_⟩
    rw [up_length] at hoff'
    obtain ⟨e1,e2,e3⟩:=h6 off' hoff'
    rw [gt_up]
    split
    · rename_i hh
      obtain ⟨rfl,_⟩:=hh
      rw [hc] at e1
      exact ⟨e1.plain,Cap.of_noOwn trivial,rfl⟩
    · exact ⟨e1,e2,e3⟩
  · rw [if_neg e] at hid'
    exact hr.hp.obj id' ob hid'
theorem takeOwn_inv (hr:Rel W0 o sig st a.tmps w) {t:Nat} {src:Org} (hsync:t < a.tmps.size → SyncAt a w t src) {k' : Nat → List DV → St → Option R} (h:takeOwn st t src k' = some r) :
    ∃ sz vs st' p,k' sz vs st' = some r ∧ Rel W0 o sig st' a.tmps w ∧ Enc o w (.slc sz vs) (a.tmps.getD t undef) ∧ Cap o w p (.own sz vs) (a.tmps.getD t undef) ∧ Free st' p:=by
  have slot:∀ v sz vs,gt .undef st.slots v = .own sz vs → Rel W0 o sig (st.set v (.d (.slc sz vs))) a.tmps w ∧ Enc o w (.slc sz vs) (a.tmps.getD v undef) ∧ Cap o w (.slot v 0) (.own sz vs) (a.tmps.getD v undef) ∧ Free (st.set v (.d (.slc sz vs))) (.slot v 0):=by
    intro v sz vs hv
    have hs:=hr.slot v
    have hcap:=hr.cap v 0
    rw [hv] at hs hcap
    have hE:Enc o w (.slc sz vs) (a.tmps.getD v undef):=by cases hs with | own h => exact h
    exact ⟨hr.setPS (d:=v) hs.plain (fun k => cap_cmp_noOwn (v:=.d (.slc sz vs)) trivial (by simp) k),hE,hcap.cmp0 (by simp),St.set_gt (v:=.d (.slc sz vs)) trivial (by simp) 0⟩
  unfold takeOwn at h
  split at h
  · rename_i sz vs hv
    obtain ⟨h1,h2,h3,h4⟩:=slot t sz vs hv
    exact ⟨sz,vs,_,_,h,h1,h2,h3,h4⟩
  · rename_i v0 hv0
    have hlt:t < st.slots.length:=by
      by_cases hl:t < st.slots.length
      · exact hl
      · rw [gt_eq,List.getElem?_eq_none (by omega)] at hv0; simp at hv0
    replace hsync:=hsync (Nat.lt_of_lt_of_le hlt hr.len)
    split at h
    · simp at h
    · rename_i v
      split at h
      · rename_i sz vs hv
        obtain ⟨h1,h2,h3,h4⟩:=slot v sz vs hv
        rw [← hsync] at h2 h3
        exact ⟨sz,vs,_,_,h,h1,h2,h3,h4⟩
      · simp at h
    · rename_i ad
      split at h
      · rename_i id off had
        obtain ⟨cs,hid,h⟩:=heapCells_inv h
        split at h
        · rename_i sz vs hc
          have hs:=hr.slot ad
          rw [had] at hs
          obtain ⟨b,hb,hX⟩:=hs.ptr_inv
          obtain ⟨ho,arr,T,h1,h2,h3⟩:=hr.hp.cells hid hb
          have hoff:off < cs.length:=by
            by_cases hl:off < cs.length
            · exact hl
            · rw [gt_eq,List.getElem?_eq_none (by omega)] at hc; simp at hc
          obtain ⟨e1,e2,e3⟩:=h3 off hoff
          rw [hc] at e1 e2
          have hcell:w.cell? ⟨b,off,none⟩ = some (arr.getD off undef):=by
            have:off < arr.size:=by omega
            simp [World.cell?,h1,this]
          have hsy:=hsync b off hX
          rw [hcell] at hsy; simp only [Option.some.injEq] at hsy
          rw [hsy] at e1 e2
          refine ⟨sz,vs,_,.cell id off,h,hr.plainCell hid hc,by cases e1 with | own h => exact h,e2,?_⟩
          intro us hus
          simp only [up_eq] at hus
          rw [List.getElem?_set,if_pos rfl,if_pos (List.getElem?_eq_some_iff.1 hid).1] at hus
          simp at hus; subst hus
          rw [← up_eq,gt_up,if_pos ⟨rfl,hoff⟩]; trivial
        · simp at h
      · simp at h
  · simp at h
theorem sized_inv {sz size:Nat} {x:Option R} (h:sized sz size x = some r):sz = size ∧ x = some r:=by
  unfold sized at h
  rw [bif_some] at h
  exact ⟨Nat.eq_of_beq_eq_true h.1,h.2⟩
theorem bytes_flat (s:List UInt8):flat (s.map fun b => Value.int .u8 b.toNat) = s.map fun b => Value.int .u8 b.toNat:=by
  induction s with
  | nil => rfl
  | cons b s ih => rw [List.map_cons,flat_cons,ih]; rfl
theorem wp_append (hC:TyOk P C) (hr:Rel W0 o sig st a.tmps w) (hc:Conts W0 o sig w a oper kp k r next Q) {src:Org} {args:Array Operand} {ats:Array TypeId} {t:Nat} {x:Operand} {tT tX e:TypeId}
    (ho:oper.op = .call { callee:=.builtin .append,args,argTypes:=ats }) (hargs:args.toList = [.tmp t,x]) (hats:ats.toList = [tT,tX]) (ht:(C.ty tT).ty = .slice e) (hz:(C.ty e).zero ≠ []) (hby:(C.ty e).bytes ≠ 0)
    (hsync:t < a.tmps.size → SyncAt a w t src)
    (h:takeOwn st t src (fun sz vs st' => sized sz (C.ty e).size (match (ev st' x).data,(C.ty tX).ty with
        | some (.slc sx xs),.slice _ => sized sx (C.ty e).size (chk (limit (C.ty e).bytes (vs.length + xs.length)) (k (st'.put oper.dst (.own (C.ty e).size (vs ++ xs)))))
        | some (.str s),.str => bif Nat.beq (C.ty e).size 1 then chk (limit (C.ty e).bytes (vs.length + s.length)) (k (st'.put oper.dst (.own (C.ty e).size (vs ++ bytesDV s)))) else none
        | _,_ => none)) = some r):oper.wp P a w next Q:=by
  have hargs:args = #[.tmp t,x]:=by apply Array.ext'; simpa using hargs
  have hats:ats = #[tT,tX]:=by apply Array.ext'; simpa using hats
  subst hargs; subst hats
  obtain ⟨sz,vs,st',p,h,hr',hE,hcap,hfree⟩:=takeOwn_inv hr hsync h
  obtain ⟨hsz,h'⟩:=sized_inv h
  clear h
  subst hsz
  have h:=h'
  clear h'
  have hrunw:∀ {y w'},(Builtin.append_ #[tT,tX] oper.type #[a.tmps.getD t undef,a.eval x]).run P w = .ok y w' → (execOp a.eval oper).run P w = .ok (.value y) w':=by
    intro y w' hy
    have he:execOp a.eval oper = (do let y ← Builtin.append_ #[tT,tX] oper.type #[a.eval (.tmp t),a.eval x]; pure (Next.value y)):=by
      simp [execOp,ho,resolve,invoke,builtin]
    rw [he]
    have hy:(Builtin.append_ #[tT,tX] oper.type #[a.eval (.tmp t),a.eval x]).run P w = .ok y w':=hy
    simp only [Sem.run_bind,hy,Result.andThen_ok,Sem.run_pure]
  have fin:∀ {xs:List DV} {ys:List Value},Src P (C.ty e).size tX (a.eval x) xs.length (flat ys) w → EncL o w xs ys → Sized (C.ty e).size ys → limit (C.ty e).bytes (vs.length + xs.length) = true →
      k (st'.put oper.dst (.own (C.ty e).size (vs ++ xs))) = some r → oper.wp P a w next Q:=by
    intro xs ys h1 h2 h3 h4 hk
    unfold limit at h4
    have h4:=of_decide_eq_true h4
    have hlen:vs.length + xs.length ≤ 9223372036854775807:=by
      have:vs.length + xs.length ≤ (vs.length + xs.length) * (C.ty e).bytes:=Nat.le_mul_of_pos_right _ (Nat.pos_of_ne_zero hby)
      omega
    obtain ⟨y,o',w',e1,e2,e3,e4,e5⟩:=append_does (P:=P) hC hr' oper.type (oper.dst.getD 0) ht hz hE hcap hfree h1 h2 h3 h4 hlen
    refine wp_value (hrunw e1) (hc.hk y _ o' sig w' hk (e2.put (.own e4) fun d hd k => ?_) e3 (.refl _))
    rw [hd] at e5
    exact cap_own_cmp e5 k
  split at h
  · rename_i sx xs e' hd hx
    obtain ⟨hsx,h⟩:=sized_inv h
    rw [hsx] at hd
    rw [chk_some] at h
    have hx:=(hC.slice _ _ hx).1
    have hEx:=(hr'.ev x).data hd
    rcases hEx.slc_inv with ⟨rfl,ad,hX⟩ | ⟨b,off,cap,ys,hX,h1,h2,h3,h4⟩
    · exact fin (ys:=[]) (by rw [hX]; cases ad with | none => exact Src.ofNil w hx 0 | some a => exact Src.ofSlice w hx a 0 0 [] (by simp) (fun j v hj => by simp at hj) (fun u hu => by simp at hu)) .nil (by intro y hy; simp at hy) h.1 h.2
    · have hys:Sized (C.ty e).size ys:=by
        intro y hy
        obtain ⟨j,hj,rfl⟩:=List.getElem_of_mem hy
        exact (h4 j _ (List.getElem?_eq_getElem hj)).1
      have hpos:0 < (C.ty e).size:=Nat.pos_of_ne_zero (hC.slice _ _ ht).2
      refine fin (ys:=ys) ?_ h3 hys h.1 h.2
      rw [hX]
      refine Src.ofSlice w hx ⟨b,off,none⟩ xs.length cap (flat ys) (by rw [flat_length hys,h3.length]) (fun j v hj => ?_) (fun u hu => ?_)
      · have hjl:=(List.getElem?_eq_some_iff.1 hj).1
        rw [flat_length hys] at hjl
        have hq:j / (C.ty e).size < ys.length:=(Nat.div_lt_iff_lt_mul hpos).2 hjl
        obtain ⟨h5,h6⟩:=h4 _ _ (List.getElem?_eq_getElem hq)
        have hjm:j % (C.ty e).size < ys[j / (C.ty e).size].cells.size:=by rw [h5]; exact Nat.mod_lt _ hpos
        have h7:=h6 _ _ (Array.getElem?_eq_getElem hjm)
        have h8:=flat_get hys (List.getElem?_eq_getElem hq) _ _ (Array.getElem?_eq_getElem hjm)
        have hdm:j / (C.ty e).size * (C.ty e).size + j % (C.ty e).size = j:=by rw [Nat.mul_comm]; exact Nat.div_add_mod _ _
        rw [hdm] at h8
        rw [h8] at hj; simp at hj; subst hj
        rw [Nat.add_assoc,hdm] at h7
        rw [addr_add]; exact h7.1
      · obtain ⟨y,hy,hu⟩:=List.mem_flatMap.1 hu
        obtain ⟨j,hj,rfl⟩:=List.getElem_of_mem hy
        obtain ⟨v,hv,hve⟩:=h3.get' (List.getElem?_eq_getElem hj)
        have hvc:=hve.cells
        obtain ⟨m,hm,rfl⟩:=List.getElem_of_mem hu
        obtain ⟨c,hc1,hc2⟩:=hvc.get' (List.getElem?_eq_getElem hm)
        exact hc2.oneCell (hve.scalars c (List.mem_of_getElem? hc1))
  · rename_i s hd hx
    rw [bif_some] at h
    obtain ⟨hs1,h⟩:=h
    have hs1:=Nat.eq_of_beq_eq_true hs1
    rw [chk_some] at h
    have hx:=hC.str _ hx
    obtain ⟨hX,hl⟩:=((hr'.ev x).data hd).str_inv
    have hbl:(bytesDV s).length = s.length:=by simp [bytesDV]
    refine fin (xs:=bytesDV s) (ys:=s.map fun b => .int .u8 b.toNat) ?_ (bytes_encL _ _ s) (fun y hy => ?_) (by rw [hbl]; exact h.1) h.2
    · rw [hX,hs1,hbl]
      have:=Src.ofString w hx ⟨s.toArray⟩
      have e1:byteCells ⟨s.toArray⟩ = flat (s.map fun b => Value.int .u8 b.toNat):=by rw [bytes_flat]; simp [byteCells]
      rw [e1] at this
      exact this
    · obtain ⟨b,_,rfl⟩:=List.mem_map.1 hy
      rw [hs1]; rfl
  · simp at h
end
end Go.PS
end

section
namespace Go.PS
open Go.RowKit
section
variable {P:Program} {C:Ctx} {W0:World} {o:Own} {sig:List Nat} {st:St} {a:Act} {w:World} {R:Type} {tm:Array Value}
  {oper:Oper} {kp:DV → List PObj → Option R} {k:St → Option R} {r:R} {next:Act → World → Prop} {Q:Exit → Act → World → Prop}
theorem Cap.otherBlock {w' : World} {b id:Nat} (hoth:∀ b',b' ≠ b → w'.heap[b']? = w.heap[b']?) (ho:o b = some (0,.obj id)) {p:Pl} (hp:∀ id,p ≠ .obj id) {v:PV} {x:Value} (h:Cap o w p v x):Cap o w' p v x:=by
  unfold Cap at *
  split
  · intro hn
    obtain ⟨h0,h1,cs,T,h2,h3⟩:=h hn
    refine ⟨h0,h1,cs,T,?_,h3⟩
    rw [hoth _ (by
      intro e
      rw [e,ho] at h1
      simp at h1
      exact hp id h1.2.symm)]
    exact h2
  · trivial
theorem Cap.mapBlock {w' : World} {o2:Own} {p p' : Pl} (g:∀ b lo,o b = some (lo,p) → w'.heap[b]? = w.heap[b]? ∧ o2 b = some (lo,p')) {v:PV} {x:Value} (h:Cap o w p v x):Cap o2 w' p' v x:=by
  unfold Cap at *
  split
  · intro hn
    obtain ⟨h0,h1,cs,T,h2,h3⟩:=h hn
    obtain ⟨e1,e2⟩:=g _ _ h1
    exact ⟨h0,e2,cs,T,by rw [e1]; exact h2,h3⟩
  · trivial
theorem Rel.setObjG (hr:Rel W0 o sig st tm w) {w' : World} {id b:Nat} {ob ob' : PObj} (hid:st.heap[id]? = some ob) (hb:sig[id]? = some b) (ho:o b = some (0,.obj id))
    (hos:w'.os = w.os) (htape:w'.tape = w.tape) (hout:w'.output = w.output) (hsize:w'.heap.size = w.heap.size) (hoth:∀ b',b' ≠ b → w'.heap[b']? = w.heap[b']?)
    (hnew:(∀ b off x,Stab o w b off x → Stab o w' b off x) → ObjEnc o w' sig id b ob') :
    Rel W0 o sig ⟨st.slots,up st.heap id ob'⟩ tm w' ∧ Step o w o w':=by
  have hst:Step o w o w':=by
    refine ⟨hos,htape,hout,by omega,fun b' _ hp => ?_,fun b' off x hx => ?_⟩
    · refine ⟨hoth b' ?_,rfl⟩
      rintro rfl
      rw [ho] at hp; exact hp
    · have hne:b' ≠ b:=by
        rintro rfl
        have:=hx.2 0 _ ho
        omega
      exact ⟨by rw [World.cell?_of_block (w:=w) (hoth b' hne)]; exact hx.1,hx.2⟩
  refine ⟨⟨⟨by rw [hsize]; exact hr.gl.size,fun b' hb' => ?_,fun b' hb' => by rw [hsize]; exact hr.gl.fin b' hb'⟩,hr.len,fun j => (hr.slot j).mono hst.stab fun _ _ h => h,fun j k => (hr.cap j k).otherBlock hoth ho (by simp),⟨by simp [hr.hp.sigl],?_⟩⟩,hst⟩
  · obtain ⟨h1,h2⟩:=hr.gl.keep b' hb'
    refine ⟨?_,h2⟩
    rw [hoth b' (by rintro rfl; rw [ho] at h2; simp at h2)]; exact h1
  · intro id' ob2 hid'
    rw [up_eq,List.getElem?_set] at hid'
    by_cases e:id = id'
    · subst e
      rw [if_pos rfl,if_pos (List.getElem?_eq_some_iff.1 hid).1] at hid'
      simp at hid'; subst hid'
      exact ⟨b,hb,ho,hnew hst.stab⟩
    · rw [if_neg e] at hid'
      obtain ⟨b',h1,h2,h3⟩:=hr.hp.obj id' ob2 hid'
      have hne:b' ≠ b:=by
        rintro rfl
        rw [ho] at h2; simp at h2; exact e h2
      refine ⟨b',h1,h2,?_⟩
      cases ob2 with
      | cells us =>
        obtain ⟨cs2,T2,h4,h5,h6⟩:=h3
        exact ⟨cs2,T2,by rw [hoth b' hne]; exact h4,h5,fun off hoff => ⟨(h6 off hoff).1.mono hst.stab fun _ _ h => h,(h6 off hoff).2.1.otherBlock hoth ho (by simp),(h6 off hoff).2.2⟩⟩
      | iter s pos => unfold ObjEnc at *; rw [hoth b' hne]; exact h3
theorem cap_tup_data {d:Nat} {vs:List DV} {x:Value} (k:Nat):Cap o w (.slot d k) (cmpV (.tup (dCells vs)) k) (cmpX (.tup (dCells vs)) x k):=by
  refine Cap.of_noOwn ?_
  simp only [cmpV,gt_dCells]
  split <;> trivial
theorem PEncL.data {vs:List DV} {xs:List Value} (h:EncL o w vs xs):PEncL o w sig (dCells vs) xs:=by
  match h with
  | .nil => exact .nil
  | .cons hh t => exact .cons (.d hh) (PEncL.data t)
theorem wp_next (hr:Rel W0 o sig st a.tmps w) (hc:Conts W0 o sig w a oper kp k r next Q) {x:Operand} (ho:oper.op = .next x true)
    (h:(match ev st x with
    | .ptr id 0 => (match gt none (st.heap.map some) id with
      | some (.iter s pos) => cnd (decide (pos < s.length)) (
          k (St.put ⟨st.slots,up st.heap id (.iter s (pos + (Utf8.decode ⟨s.toArray⟩ pos).2))⟩ oper.dst (.tup (dCells [.bool true,.int .i64 pos,.int .i32 (Utf8.decode ⟨s.toArray⟩ pos).1]))))
        (k (st.put oper.dst (.tup (dCells [.bool false]))))
      | _ => none)
    | _ => none) = some r):oper.wp P a w next Q:=by
  split at h
  · rename_i id he
    obtain ⟨X,hX,hx⟩:=hr.evx x he
    obtain ⟨b,hb,rfl⟩:=hx.ptr_inv
    split at h
    · rename_i s pos hg
      rw [gt_some] at hg
      obtain ⟨b',e1,e2,e3⟩:=hr.hp.obj id _ hg
      rw [hb] at e1; simp at e1; subst e1
      have e3:w.heap[b]? = some (.stringIter ⟨s.toArray⟩ pos):=e3
      have hbs:=(Array.getElem?_eq_some_iff.1 e3).1
      rw [cnd_some] at h
      rcases h with ⟨hp,h⟩ | ⟨hp,h⟩
      · have hp:=of_decide_eq_true hp
        have hsz:pos < (⟨s.toArray⟩:ByteArray).size:=hp
        let w' : World:={ w with heap:=w.heap.setIfInBounds b (.stringIter ⟨s.toArray⟩ (pos + (Utf8.decode ⟨s.toArray⟩ pos).2)) }
        have hrun:(execOp a.eval oper).run P w = .ok (.value (.tuple #[.bool true,.int .i64 pos,.int .i32 (Utf8.decode ⟨s.toArray⟩ pos).1])) w':=by
          simp only [execOp,ho,hX,Instr.next,getObj,setObj,Sem.run_bind,Sem.run,e3,Result.andThen,hsz,if_true]
          simp [goInt,w']
        have hnew:w'.heap[b]? = some (.stringIter ⟨s.toArray⟩ (pos + (Utf8.decode ⟨s.toArray⟩ pos).2)):=by
          simp [w',hbs]
        obtain ⟨h1,h2⟩:=hr.setObjG (w':=w') (ob':=.iter s (pos + (Utf8.decode ⟨s.toArray⟩ pos).2)) hg hb e2 rfl rfl rfl (by simp [w']) (fun b' hb' => by simp [w',Array.getElem?_setIfInBounds,Ne.symm hb']) (fun _ => hnew)
        refine wp_value hrun (hc.hk _ _ o sig w' h (h1.put (.tup (PEncL.data (.cons (.bool true) (.cons (.int _ _) (.cons (.int _ _) .nil))))) fun d _ k => cap_tup_data k) h2 (.refl _))
      · have hp:=of_decide_eq_false hp
        have hsz:¬ pos < (⟨s.toArray⟩:ByteArray).size:=hp
        have hrun:(execOp a.eval oper).run P w = .ok (.value (.tuple #[.bool false])) w:=by
          simp only [execOp,ho,hX,Instr.next,getObj,Sem.run_bind,Sem.run,e3,Result.andThen,hsz,if_false]
          simp
        refine wp_value hrun (hc.hk _ _ o sig w h (hr.put (.tup (PEncL.data (.cons (.bool false) .nil))) fun d _ k => cap_tup_data k) (.refl _ _) (.refl _))
    · simp at h
  · simp at h
theorem wp_typeAssert (hC:TyOk P C) (hr:Rel W0 o sig st a.tmps w) (hc:Conts W0 o sig w a oper kp k r next Q) {x:Operand} {xt t:TypeId} {ok:Bool} (ho:oper.op = .typeAssert x xt t ok)
    (h:(match (C.ty t).ty,ev st x with
    | .struct _,.d (.iface s v) => bif Nat.beq s t then (bif ok then k (st.put oper.dst (.tup (dCells [v,.bool true]))) else k (st.put oper.dst (.d v))) else none
    | _,_ => none) = some r):oper.wp P a w next Q:=by
  split at h
  · rename_i fs s v ht he
    rw [bif_some] at h
    obtain ⟨hst,h⟩:=h
    have hst:=Nat.eq_of_beq_eq_true hst
    subst hst
    obtain ⟨X,hX,hx⟩:=hr.evx x he
    obtain ⟨y,rfl,hy⟩:∃ y,X = .iface s y ∧ Enc o w v y:=by cases hx.d_inv; exact ⟨_,rfl,by assumption⟩
    obtain ⟨F,hu,_⟩:=hC.struct _ _ ht
    cases ok with
    | true =>
      have hrun:(execOp a.eval oper).run P w = .ok (.value (.tuple #[y,.bool true])) w:=by
        simp [execOp,ho,hX,Instr.typeAssert,run_underlying hu]
      exact wp_value hrun (hc.hk _ _ o sig w h (hr.put (.tup (PEncL.data (.cons hy (.cons (.bool true) .nil)))) fun d _ k => cap_tup_data k) (.refl _ _) (.refl _))
    | false =>
      have hrun:(execOp a.eval oper).run P w = .ok (.value y) w:=by
        simp [execOp,ho,hX,Instr.typeAssert,run_underlying hu]
      exact wp_value hrun (hc.hk _ _ o sig w h (hr.put_plain (v:=.d v) (.d hy) trivial (by simp)) (.refl _ _) (.refl _))
  · simp at h
def Post (W0:World) (o:Own) (sig:List Nat) (w:World) (out:Out) (H:List PObj) (e:Ending) (w' : World):Prop :=
  ∃ o' sig',Gl W0 o' w' ∧ RelH o' sig' H w' ∧ Step o w o' w' ∧ SigExt sig sig' ∧
    match out,e with
    | .ret v,.returned x => PEnc o' w' sig' v x ∧ ∀ k,Cap o' w' (.res k) (cmpV v k) (cmpX v x k)
    | .pan v,.panicked chain => ∃ x,Enc o' w' v x ∧ chain = [{ v:=x,recovered:=false }]
    | _,_ => False
structure Sound (P:Program) (W0:World) (f:FuncId) (S:List PV → List PObj → Option (Out × List PObj)):Prop where
  enters:∀ args w,(callFunc f args).run P w = .ok (.enter f args) w
  calls:∀ args H out H',S args H = some (out,H') → ∀ o sig w xs,Gl W0 o w → RelH o sig H w → PEncL o w sig args xs → Calls P f xs.toArray w (Post W0 o sig w out H')
structure SoundP (P:Program) (W0:World) (f:FuncId) (S:List PV → Option PV):Prop where
  enters:∀ args w,(callFunc f args).run P w = .ok (.enter f args) w
  calls:∀ args v,S args = some v → ∀ o sig w xs,Gl W0 o w → (∀ b lo k,o b ≠ some (lo,.res k)) → PEncL o w sig args xs → Calls P f xs.toArray w fun e w' =>
    ∃ x o',e = .returned x ∧ Grow o w o' w' ∧ PEnc o' w' sig v x ∧ ∀ k,Cap o' w' (.res k) (cmpV v k) (cmpX v x k)
def EnvOk (P:Program) (W0:World) (C:Ctx):Prop:=∀ f ek,C.env f = some ek → match ek with
  | .pure s => SoundP P W0 f fun args => (s args).val
  | .eff s => Sound P W0 f fun args H => (s args H).val
  | .fr s => Sound P W0 f fun args H => (s args H).val
def inw (p:Pl):Pl :=
  match p with
  | .slot _ _ => .ext
  | .res _ => .dead
  | p => p
def outw (d:Option Tmp) (p:Pl):Pl :=
  match p with
  | .res k => match d with | some d => .slot d k | none => .dead
  | p => p
def back (o o' : Own) (d:Option Tmp):Own:=fun b =>
  match o b with
  | some (lo,.slot j k) => some (lo,.slot j k)
  | _ => rel (outw d) o' b
theorem PEncL.append {vs us:List PV} {xs ys:List Value} (h:PEncL o w sig vs xs) (g:PEncL o w sig us ys):PEncL o w sig (vs ++ us) (xs ++ ys):=by
  match h with
  | .nil => exact g
  | .cons hh t => exact .cons hh (t.append g)
theorem call_run {f:FuncId} (hS:∀ args w,(callFunc f args).run P w = .ok (.enter f args) w) {fo:Operand} {args:Array Operand} {ats:Array TypeId} (ho:oper.op = .call { callee:=.value fo,args,argTypes:=ats })
    {fs cs:List Value} (hF:a.eval fo = .func (.func f) fs.toArray cs.toArray):(execOp a.eval oper).run P w = .ok (.enter f (fs ++ (args.toList.map a.eval) ++ cs).toArray) w:=by
  have e1:(fs ++ args.toList.map a.eval ++ cs).toArray = fs.toArray ++ (args.map a.eval) ++ cs.toArray:=by apply Array.ext'; simp
  have he:execOp a.eval oper = callFunc f (fs.toArray ++ (args.map a.eval) ++ cs.toArray):=by
    simp [execOp,ho,resolve,hF,Deferred.ofValue,invoke]
  rw [he,hS,e1]
theorem wp_callP (hr:Rel W0 o sig st a.tmps w) {fo:Operand} {args:Array Operand} {ats:Array TypeId} (ho:oper.op = .call { callee:=.value fo,args,argTypes:=ats })
    {f:FuncId} {c:List PV} {S:List PV → Option PV} (hS:SoundP P W0 f S) (hf:ev st fo = .func f c) {v:PV} (hs:S (bargs c (evs st args.toList)) = some v)
    (hn:∀ x o' w',Grow o w o' w' → Rel W0 o' sig (st.put oper.dst v) (a.put oper.dst x).tmps w' → next (a.put oper.dst x) w'):oper.wp P a w next Q:=by
  obtain ⟨F,hF,hf'⟩:=hr.evx fo hf
  obtain ⟨fs,cs,rfl,hcs⟩:=hf'.func_inv
  have hargs:=hcs _ _ (evs_enc hr args.toList)
  unfold Oper.wp
  rw [call_run hS.enters ho hF,Oper.upon_enter]
  let ψ:Pl → Pl:=fun p => match p with | .res _ => .dead | p => p
  have hnr:∀ b lo k,rel ψ o b ≠ some (lo,.res k):=by
    intro b lo k h
    unfold rel at h
    cases hb:o b with
    | none => simp [hb] at h
    | some q =>
      obtain ⟨lo',p⟩:=q
      rw [hb] at h
      cases p <;> simp [ψ] at h
  refine (hS.calls _ _ hs (rel ψ o) sig w _ (hr.gl.relabel ψ) hnr (hargs.mono (fun _ _ _ h => rel_stab h) fun _ _ h => h)).mono ?_
  rintro e w' ⟨x,o',rfl,hg,hv,hcap⟩
  -- out of it
  let φ:Pl → Pl:=outw oper.dst
  have sd:∀ p,φ p = p ∨ ∃ k,p = .res k:=by
    intro p
    cases p <;> first | exact .inl rfl | exact .inr ⟨_,rfl⟩
  let o2:Own:=fun b => if b < w.heap.size then o b else rel φ o' b
  have hst2:∀ b off y,Stab o' w' b off y → Stab o2 w' b off y:=by
    intro b off y hy
    refine ⟨hy.1,fun lo p hlo => ?_⟩
    have hlo:(if b < w.heap.size then o b else rel φ o' b) = some (lo,p):=hlo
    split at hlo
    · rename_i hb
      have:o' b = some (lo,ψ p):=by rw [(hg.same b hb).2]; exact rel_some hlo
      exact hy.2 _ _ this
    · unfold rel at hlo
      cases hb:o' b with
      | none => simp [hb] at hlo
      | some q => simp [hb] at hlo; exact hlo.1 ▸ hy.2 q.1 q.2 (by rw [hb])
  have hg2:Grow o w o2 w':=by
    refine ⟨hg.os,hg.tape,hg.output,hg.size,fun b hb => ⟨(hg.same b hb).1,by show (if b < w.heap.size then o b else rel φ o' b) = o b; rw [if_pos hb]⟩,fun b hb => ?_⟩
    by_cases hlt:b < w.heap.size
    · exact Nat.lt_of_lt_of_le hlt hg.size
    · refine hg.fin b fun e => hb ?_
      show (if b < w.heap.size then o b else rel φ o' b) = none
      rw [if_neg hlt]; simp [rel,e]
  refine hn x o2 w' hg2 ((hr.grow hg2).put (hv.mono hst2 fun _ _ h => h) fun d hd k => ?_)
  have:=hcap k
  refine this.mapBlock fun b lo hb => ⟨rfl,?_⟩
  have hnlt:¬ b < w.heap.size ∨ b < w.heap.size:=by omega
  rcases hnlt with hlt | hlt
  · show (if b < w.heap.size then o b else rel φ o' b) = _
    rw [if_neg hlt]
    have:=rel_some (φ:=φ) hb
    rw [this]
    simp [φ,outw,hd]
  · rw [(hg.same b hlt).2] at hb
    exact (hnr b lo k hb).elim
theorem wp_callX {X:World → Prop} (hr:Rel W0 o sig st a.tmps w) {fo:Operand} {args:Array Operand} {ats:Array TypeId} (ho:oper.op = .call { callee:=.value fo,args,argTypes:=ats })
    (hk:∀ x st' o' sig' w',k st' = some r → Rel W0 o' sig' st' (a.put oper.dst x).tmps w' → Step o w o' w' → SigExt sig sig' → X w' → next (a.put oper.dst x) w')
    (hp:∀ v x hp' o' sig' w',kp v hp' = some r → Enc o' w' v x → RelH o' sig' hp' w' → Gl W0 o' w' → Step o w o' w' → SigExt sig sig' → Q (.panic [{ v:=x,recovered:=false }]) a w')
    {f:FuncId} {c:List PV} (hent:∀ args w,(callFunc f args).run P w = .ok (.enter f args) w) (hf:ev st fo = .func f c) {out:Out} {H' : List PObj}
    (hcalls:∀ oi xs,(∀ b lo id,o b = some (lo,.obj id) → oi b = some (lo,.obj id)) → Gl W0 oi w → RelH oi sig st.heap w → PEncL oi w sig (bargs c (evs st args.toList)) xs → Calls P f xs.toArray w fun e w' => Post W0 oi sig w out H' e w' ∧ X w')
    (h:(match (generalizing:=false) out with
      | .ret v => k (St.put ⟨st.slots,H'⟩ oper.dst v)
      | .pan v => kp v H') = some r):oper.wp P a w next Q:=by
  obtain ⟨F,hF,hf'⟩:=hr.evx fo hf
  obtain ⟨fs,cs,rfl,hcs⟩:=hf'.func_inv
  have hargs:=hcs _ _ (evs_enc hr args.toList)
  -- into the call
  let oi:Own:=rel inw o
  have hgi:Gl W0 oi w:=hr.gl.relabel inw
  have hri:RelH oi sig st.heap w:=hr.hp.relabel inw (fun _ => rfl) fun _ _ _ _ _ _ => rfl
  have hsti:∀ b off x,Stab o w b off x → Stab oi w b off x:=fun _ _ _ h => rel_stab h
  have hcall:=hcalls oi _ (fun b lo id hb => by show rel inw o b = _; exact rel_some hb) hgi hri (hargs.mono hsti fun _ _ h => h)
  unfold Oper.wp
  rw [call_run hent ho hF,Oper.upon_enter]
  refine hcall.mono ?_
  rintro e w' ⟨⟨o',sig',g',rh',hst',hse',hpost⟩,hX⟩
  -- out of it
  let o2:Own:=back o o' oper.dst
  have slotted:∀ b lo j k,o b = some (lo,.slot j k) → w'.heap[b]? = w.heap[b]? ∧ o' b = some (lo,.ext):=by
    intro b lo j k hb
    have hbs:=hr.gl.fin b (by rw [hb]; simp)
    have hoi:oi b = some (lo,.ext):=rel_some hb
    obtain ⟨e1,e2⟩:=hst'.prot b hbs (by rw [hoi]; trivial)
    exact ⟨e1,by rw [e2,hoi]⟩
  have o2_other:∀ b lo p,o' b = some (lo,p) → p ≠ .ext → o2 b = some (lo,outw oper.dst p):=by
    intro b lo p hb hp
    show back o o' oper.dst b = _
    unfold back
    split
    · rename_i lo' j k hob
      rw [(slotted b lo' j k hob).2] at hb
      simp at hb; exact absurd hb.2.symm hp
    · exact rel_some hb
  have hst2' : ∀ b off x,Stab o' w' b off x → Stab o2 w' b off x:=by
    intro b off x hx
    refine ⟨hx.1,fun lo p hlo => ?_⟩
    have hlo:back o o' oper.dst b = some (lo,p):=hlo
    unfold back at hlo
    split at hlo
    · rename_i lo' j k hob
      simp at hlo
      exact hlo.1 ▸ hx.2 _ _ (slotted b lo' j k hob).2
    · unfold rel at hlo
      cases hb:o' b with
      | none => simp [hb] at hlo
      | some q => simp [hb] at hlo; exact hlo.1 ▸ hx.2 q.1 q.2 (by rw [hb])
  have hstep:Step o w o2 w':=by
    refine ⟨hst'.os,hst'.tape,hst'.output,hst'.size,fun b hb hp => ?_,fun b off x hx => ?_⟩
    · have hoi:oi b = o b:=by
        show rel inw o b = o b
        unfold rel
        cases hob:o b with
        | none => rfl
        | some q =>
          obtain ⟨lo,p⟩:=q
          rw [hob] at hp
          cases p <;> simp [Prot] at hp
          rfl
      obtain ⟨e1,e2⟩:=hst'.prot b hb (by rw [hoi]; exact hp)
      refine ⟨e1,?_⟩
      show back o o' oper.dst b = o b
      unfold back
      split
      · rename_i lo' j k hob; rw [hob]
      · rw [hoi] at e2
        unfold rel
        rw [e2]
        cases hob:o b with
        | none => rfl
        | some q =>
          obtain ⟨lo,p⟩:=q
          rw [hob] at hp
          cases p <;> simp [Prot] at hp
          rfl
    · exact hst2' _ _ _ (hst'.stab _ _ _ (hsti _ _ _ hx))
  have hg2:Gl W0 o2 w':=by
    refine ⟨g'.size,fun b hb => ⟨(g'.keep b hb).1,?_⟩,fun b hb => ?_⟩
    · show back o o' oper.dst b = none
      unfold back
      rw [(hr.gl.keep b hb).2]
      simp [rel,(g'.keep b hb).2]
    · by_cases hob:o b = none
      · refine g'.fin b fun e => hb ?_
        show back o o' oper.dst b = none
        unfold back; rw [hob]; simp [rel,e]
      · exact Nat.lt_of_lt_of_le (hr.gl.fin b hob) hst'.size
  have cap2:∀ {p:Pl} {v:PV} {x:Value},p ≠ .ext → Cap o' w' p v x → Cap o2 w' (outw oper.dst p) v x:=by
    intro p v x hp hcap
    unfold Cap at *
    split
    · intro hn
      obtain ⟨h0,h1,h2⟩:=hcap hn
      exact ⟨h0,o2_other _ _ _ h1 hp,h2⟩
    · trivial
  have hrh2:RelH o2 sig' H' w':=by
    refine ⟨rh'.sigl,fun id ob hid => ?_⟩
    obtain ⟨b,h1,h2,h3⟩:=rh'.obj id ob hid
    refine ⟨b,h1,o2_other b 0 _ h2 (by simp),?_⟩
    cases ob with
    | cells vs =>
      obtain ⟨arr,T,h4,h5,h6⟩:=h3
      exact ⟨arr,T,h4,h5,fun off hoff => ⟨(h6 off hoff).1.mono hst2' fun _ _ h => h,cap2 (p:=.cell id off) (by simp) (h6 off hoff).2.1,(h6 off hoff).2.2⟩⟩
    | iter s pos => exact h3
  have hrel2:Rel W0 o2 sig' ⟨st.slots,H'⟩ a.tmps w':=by
    refine ⟨hg2,hr.len,fun j => (hr.slot j).mono hstep.stab hse',fun j k => ?_,hrh2⟩
    refine (hr.cap j k).mapBlock fun b lo hb => ⟨(slotted b lo j k hb).1,?_⟩
    show back o o' oper.dst b = _
    unfold back; rw [hb]
  cases out with
  | ret v =>
    cases e with
    | returned x =>
      obtain ⟨hv,hcap⟩:=hpost
      refine hk x _ o2 sig' w' h (hrel2.put (hv.mono hst2' fun _ _ h => h) fun d hd k => ?_) hstep hse' hX
      have:=cap2 (by simp) (hcap k)
      rw [hd] at this
      simpa only [outw] using this
    | panicked _ => exact hpost.elim
    | outgrown => exact hpost.elim
  | pan v =>
    cases e with
    | returned x => exact hpost.elim
    | panicked chain =>
      obtain ⟨x,hx,rfl⟩:=hpost
      exact hp v x H' o2 sig' w' h (hx.mono hst2') hrh2 hg2 hstep hse'
    | outgrown => exact hpost.elim
theorem wp_call (hr:Rel W0 o sig st a.tmps w) (hc:Conts W0 o sig w a oper kp k r next Q) {fo:Operand} {args:Array Operand} {ats:Array TypeId} (ho:oper.op = .call { callee:=.value fo,args,argTypes:=ats })
    {f:FuncId} {c:List PV} {S:List PV → List PObj → Option (Out × List PObj)} (hS:Sound P W0 f S) (hf:ev st fo = .func f c) {out:Out} {H' : List PObj} (hs:S (bargs c (evs st args.toList)) st.heap = some (out,H'))
    (h:(match (generalizing:=false) out with
      | .ret v => k (St.put ⟨st.slots,H'⟩ oper.dst v)
      | .pan v => kp v H') = some r):oper.wp P a w next Q :=
  wp_callX (X:=fun _ => True) hr ho (fun x st' o' sig' w' h1 h2 h3 h4 _ => hc.hk x st' o' sig' w' h1 h2 h3 h4) hc.hp hS.enters hf
    (fun oi xs _ hg hh hx => (hS.calls _ _ _ _ hs oi sig w xs hg hh hx).mono fun e w' h => ⟨h,trivial⟩) h
end
end Go.PS
end

section
namespace Go.PS
open Go.RowKit
def frameAt (ids:List Nat) (S:List PV → List PObj → Option (Out × List PObj)) (args:List PV) (H:List PObj):Option (Out × List PObj) :=
  bif nodupN ids then (match inV.inVs ids args with
    | some as => match subH ids H ids with
      | some H1 => match S as H1 with
        | some (out,H2) => some (outOut (gid H.length ids) out,putH (gid H.length ids) H ids H2)
        | none => none
      | none => none
    | none => none) else none
def frame (S:List PV → List PObj → Option (Out × List PObj)) (args:List PV) (H:List PObj):Option (Out × List PObj) :=
  frameAt (visit 200 H [] args) S args H
theorem Tr.val_ok {α:Type} (a:α):(Tr.ok a).val = some a:=rfl
theorem Tr.val_cnd {α:Type} (b:Bool) (x y:Tr α):(Tr.cnd b x y).val = PS.cnd b x.val y.val:=rfl
theorem Tr.val_chk {α:Type} (b:Bool) (x:Tr α):(Tr.chk b x).val = PS.chk b x.val:=rfl
theorem Tr.val_no {α:Type}:(Tr.no:Tr α).val = none:=rfl
theorem Tr.val_map {α β:Type} (f:α → β) (t:Tr α):(t.map f).val = t.val.map f:=by
  induction t with
  | ok a => rfl
  | cnd b x y ihx ihy => cases b <;> simpa only [Tr.map,Tr.val,Tr.run,PS.cnd] using (by assumption)
  | chk b x ih => cases b <;> first | rfl | simpa only [Tr.map,Tr.val,Tr.run,PS.chk] using ih
  | no => rfl
theorem frameT_val (S:List PV → List PObj → Tr (Out × List PObj)) (args:List PV) (H:List PObj):(frameT S args H).val = frame (fun a h => (S a h).val) args H:=by
  unfold frameT frame frameTAt frameAt
  cases nodupN (visit 200 H [] args) with
  | false => rfl
  | true =>
    simp only [cond_true]
    cases inV.inVs (visit 200 H [] args) args with
    | none => rfl
    | some as =>
      cases subH (visit 200 H [] args) H (visit 200 H [] args) with
      | none => rfl
      | some H1 =>
        dsimp only
        rw [Tr.val_map]
        cases (S as H1).val <;> rfl
section
variable {P:Program} {C:Ctx} {W0:World} {o:Own} {sig:List Nat} {st:St} {a:Act} {w:World} {R:Type} {tm:Array Value}
theorem nodupN_spec {t:Nat} {l:List Nat} (h:nodupN (t :: l) = true):t ∉ l ∧ nodupN l = true:=by
  simp only [nodupN,Bool.and_eq_true,Bool.not_eq_true'] at h
  refine ⟨fun hm => ?_,h.2⟩
  have:∀ l:List Nat,t ∈ l → memN t l = true:=by
    intro l
    induction l with
    | nil => intro h; simp at h
    | cons u l ih =>
      intro hm
      simp only [memN,Bool.or_eq_true]
      rcases List.mem_cons.1 hm with e | e
      · subst e; exact .inl (by simp)
      · exact .inr (ih e)
  rw [this l hm] at h; simp at h
theorem idx_get {i:Nat} {l:List Nat} {j:Nat} (h:idx i l = some j):l[j]? = some i:=by
  induction l generalizing j with
  | nil => simp [idx] at h
  | cons a l ih =>
    simp only [idx] at h
    cases hb:Nat.beq i a with
    | true =>
      rw [hb] at h; simp at h; subst h
      have:i = a:=Nat.eq_of_beq_eq_true hb
      simp [this]
    | false =>
      rw [hb] at h
      simp only [cond_false] at h
      split at h
      · rename_i n hn
        simp at h; subst h
        simpa using ih hn
      · simp at h
theorem idx_none {i:Nat} {l:List Nat} (h:idx i l = none):∀ j:Nat,l[j]? ≠ some i:=by
  induction l with
  | nil => intro j; simp
  | cons a l ih =>
    simp only [idx] at h
    cases hb:Nat.beq i a with
    | true => rw [hb] at h; simp at h
    | false =>
      rw [hb] at h
      simp only [cond_false] at h
      split at h
      · simp at h
      · rename_i hn
        intro j
        cases j with
        | zero => simp; rintro rfl; simp at hb
        | succ j => simpa using ih hn j
theorem nodup_mem {l:List Nat} (h:nodupN l = true):∀ {i j:Nat} {x:Nat},l[i]? = some x → l[j]? = some x → i = j:=by
  induction l with
  | nil => intro i j x hi; simp at hi
  | cons a l ih =>
    obtain ⟨h1,h2⟩:=nodupN_spec h
    intro i j x hi hj
    cases i with
    | zero =>
      simp at hi; subst hi
      cases j with
      | zero => rfl
      | succ j => simp at hj; exact absurd (List.mem_of_getElem? hj) h1
    | succ i =>
      cases j with
      | zero => simp at hj; subst hj; simp at hi; exact absurd (List.mem_of_getElem? hi) h1
      | succ j => simp at hi hj; rw [ih h2 hi hj]
theorem idx_nodup {l:List Nat} (h:nodupN l = true) {j x:Nat} (hj:l[j]? = some x):idx x l = some j:=by
  cases hi:idx x l with
  | none => exact absurd hj (idx_none hi j)
  | some i => rw [nodup_mem h (idx_get hi) hj]
theorem gid_lt {N:Nat} {l:List Nat} {j:Nat} (h:j < l.length):gid N l j = l[j]:=by
  induction l generalizing j with
  | nil => simp at h
  | cons a l ih =>
    cases j with
    | zero => rfl
    | succ j => simp only [gid,List.getElem_cons_succ]; exact ih (by simpa using h)
theorem gid_ge {N:Nat} {l:List Nat} {j:Nat} (h:l.length ≤ j):gid N l j = N + (j - l.length):=by
  induction l generalizing j with
  | nil => simp [gid]
  | cons a l ih =>
    cases j with
    | zero => simp at h
    | succ j => simp only [gid,List.length_cons]; rw [ih (by simpa using h)]; omega
theorem outOs_length (g:Nat → Nat) (l:List PObj):(outOs g l).length = l.length:=by
  induction l with
  | nil => rfl
  | cons a l ih => simp [outOs,ih]
theorem outOs_get (g:Nat → Nat) (l:List PObj) (i:Nat):(outOs g l)[i]? = (l[i]?).map (outO g):=by
  induction l generalizing i with
  | nil => simp [outOs]
  | cons a l ih => cases i <;> simp [outOs,ih]
theorem putH_length {g:Nat → Nat} {ids:List Nat} {H H2:List PObj} (hk:ids.length ≤ H2.length):(putH g H ids H2).length = H.length + (H2.length - ids.length):=by
  induction ids generalizing H H2 with
  | nil => simp [putH,outOs_length]
  | cons i ids ih =>
    cases H2 with
    | nil => simp at hk
    | cons ob H2 =>
      simp only [putH]
      rw [ih (by simpa using hk)]
      simp
theorem putH_new {g:Nat → Nat} {ids:List Nat} {H H2:List PObj} (hk:ids.length ≤ H2.length) (m:Nat):(putH g H ids H2)[H.length + m]? = (H2[ids.length + m]?).map (outO g):=by
  induction ids generalizing H H2 with
  | nil => simp only [putH,List.length_nil,Nat.zero_add]; rw [List.getElem?_append_right (by omega),outOs_get]; simp
  | cons i ids ih =>
    cases H2 with
    | nil => simp at hk
    | cons ob H2 =>
      simp only [putH]
      have:=ih (H:=up H i (outO g ob)) (H2:=H2) (by simpa using hk)
      rw [up_length] at this
      rw [this]
      simp only [List.length_cons]
      rw [show ids.length + 1 + m = (ids.length + m) + 1 by omega,List.getElem?_cons_succ]
theorem putH_old {g:Nat → Nat} {ids:List Nat} {H H2:List PObj} (hk:ids.length ≤ H2.length) {id:Nat} (hid:id < H.length) (hn:idx id ids = none):(putH g H ids H2)[id]? = H[id]?:=by
  induction ids generalizing H H2 with
  | nil => simp only [putH]; rw [List.getElem?_append_left hid]
  | cons i ids ih =>
    cases H2 with
    | nil => simp at hk
    | cons ob H2 =>
      simp only [putH]
      simp only [idx] at hn
      cases hb:Nat.beq id i with
      | true => rw [hb] at hn; simp at hn
      | false =>
        rw [hb] at hn
        simp only [cond_false] at hn
        split at hn
        · simp at hn
        · rename_i hn'
          rw [ih (by simpa using hk) (by simpa using hid) hn',up_eq,List.getElem?_set,if_neg (by rintro rfl; simp at hb)]
theorem putH_in {g:Nat → Nat} {ids:List Nat} {H H2:List PObj} (hk:ids.length ≤ H2.length) (hnd:nodupN ids = true) {id j:Nat} (hid:id < H.length) (hj:ids[j]? = some id):(putH g H ids H2)[id]? = (H2[j]?).map (outO g):=by
  induction ids generalizing H H2 j with
  | nil => simp at hj
  | cons i ids ih =>
    cases H2 with
    | nil => simp at hk
    | cons ob H2 =>
      obtain ⟨h1,h2⟩:=nodupN_spec hnd
      simp only [putH]
      cases j with
      | zero =>
        simp at hj; subst hj
        rw [putH_old (by simpa using hk) (by simpa using hid),up_eq,List.getElem?_set]
        · simp [hid]
        · cases hx:idx i ids with
          | none => rfl
          | some j => exact absurd (List.mem_of_getElem? (idx_get hx)) h1
      | succ j =>
        simp at hj
        rw [ih (by simpa using hk) h2 (by simpa using hid) hj]
        simp
theorem subH_get {ids:List Nat} {H:List PObj}:∀ {l:List Nat} {H1:List PObj},subH ids H l = some H1 → H1.length = l.length ∧ ∀ (j:Nat) i,l[j]? = some i → ∃ ob ob1,H[i]? = some ob ∧ subO ids ob = some ob1 ∧ H1[j]? = some ob1:=by
  intro l
  induction l with
  | nil => intro H1 h; simp [subH] at h; subst h; simp
  | cons i l ih =>
    intro H1 h
    simp only [subH] at h
    split at h
    · rename_i ob hob
      split at h
      · rename_i ob1 hob1
        split at h
        · rename_i r hr
          simp at h; subst h
          obtain ⟨h1,h2⟩:=ih hr
          refine ⟨by simp [h1],fun j i' hj => ?_⟩
          cases j with
          | zero => simp at hj; subst hj; rw [gt_some] at hob; exact ⟨ob,ob1,hob,hob1,by simp⟩
          | succ j => simpa using h2 j i' (by simpa using hj)
        · simp at h
      · simp at h
    · simp at h
theorem inVs_notSkp {ids:List Nat} {cs c:List PV} (h:inV.inVs ids cs = some c):notSkp c = notSkp cs:=by
  cases cs with
  | nil => simp [inV.inVs] at h; subst h; rfl
  | cons v l =>
    simp only [inV.inVs] at h
    split at h
    · rename_i u hu
      split at h
      · simp at h; subst h
        cases v <;> simp only [inV] at hu <;> (try split at hu) <;> simp at hu <;> subst hu <;> rfl
      · simp at h
    · simp at h
theorem outVs_notSkp (g:Nat → Nat) (cs:List PV):notSkp (outV.outVs g cs) = notSkp cs:=by
  cases cs with
  | nil => rfl
  | cons v l => cases v <;> rfl
section
variable {ids:List Nat} {o1:Own} {sig1:List Nat} (hs:∀ b off x,Stab o w b off x → Stab o1 w b off x) (hi:∀ (id j:Nat) b,idx id ids = some j → sig[id]? = some b → sig1[j]? = some b)
include hs hi
mutual
theorem inV_spec {v:PV} {x:Value} {u:PV} (h:PEnc o w sig v x) (g:inV ids v = some u):PEnc o1 w sig1 u x:=by
  match h with
  | .d h => simp [inV] at g; subst g; exact .d (h.mono hs)
  | .own h => simp [inV] at g; subst g; exact .own (h.mono hs)
  | .ptr (id:=id) (b:=b) h =>
    simp only [inV] at g
    split at g
    · rename_i j hj
      simp at g; subst g
      exact .ptr (hi id j b hj h)
    · simp at g
  | .ro ys hx hc hsc => simp [inV] at g; subst g; exact .ro ys (hx.mono hs) (fun j y hj => hs _ _ _ (hc j y hj)) hsc
  | .func hn h =>
    simp only [inV] at g
    split at g
    · rename_i c hc
      simp at g; subst g
      exact .func (by rw [inVs_notSkp hc]; exact hn) (inVs_spec h hc)
    · simp at g
  | .bnd h =>
    simp only [inV,inV.inVs] at g
    split at g
    · rename_i c hc
      split at hc
      · rename_i l hl
        simp at hc; subst hc
        simp at g; subst g
        exact .bnd (inVs_spec h hl)
      · simp at hc
    · simp at g
  | .tup h =>
    simp only [inV] at g
    split at g
    · rename_i c hc
      simp at g; subst g
      exact .tup (inVs_spec h hc)
    · simp at g
  | .undef => simp [inV] at g; subst g; exact .undef
  | .skp => simp [inV] at g; subst g; exact .skp
theorem inVs_spec {vs:List PV} {xs:List Value} {us:List PV} (h:PEncL o w sig vs xs) (g:inV.inVs ids vs = some us):PEncL o1 w sig1 us xs:=by
  match h with
  | .nil => simp [inV.inVs] at g; subst g; exact .nil
  | .cons hh t =>
    simp only [inV.inVs] at g
    split at g
    · rename_i u hu
      split at g
      · rename_i l hl
        simp at g; subst g
        exact .cons (inV_spec hh hu) (inVs_spec t hl)
      · simp at g
    · simp at g
end
end
theorem inV_noOwn {ids:List Nat} {v u:PV} (h:inV ids v = some u):u.cellOk = v.cellOk ∧ ∀ (o:Own) (w:World) p x,Cap o w p v x → Cap o w p u x:=by
  cases v <;> simp only [inV] at h <;> (try split at h) <;> simp at h <;> subst h <;> exact ⟨rfl,fun _ _ _ _ h => by first | exact h | trivial⟩
theorem inVs_get {ids:List Nat}:∀ {vs us:List PV},inV.inVs ids vs = some us → us.length = vs.length ∧ ∀ k,k < vs.length → inV ids (gt .undef vs k) = some (gt .undef us k):=by
  intro vs
  induction vs with
  | nil => intro us h; simp [inV.inVs] at h; subst h; simp
  | cons v vs ih =>
    intro us h
    simp only [inV.inVs] at h
    split at h
    · rename_i u hu
      split at h
      · rename_i l hl
        simp at h; subst h
        obtain ⟨h1,h2⟩:=ih hl
        refine ⟨by simp [h1],fun k hk => ?_⟩
        cases k with
        | zero => simpa [gt] using hu
        | succ k => simpa [gt] using h2 k (by simpa using hk)
      · simp at h
    · simp at h
section
variable {g:Nat → Nat} {o2:Own} {sig2:List Nat} (hs:∀ b off x,Stab o w b off x → Stab o2 w b off x) (hi:∀ (j:Nat) b,sig[j]? = some b → sig2[g j]? = some b)
include hs hi
mutual
theorem outV_spec {v:PV} {x:Value} (h:PEnc o w sig v x):PEnc o2 w sig2 (outV g v) x:=by
  match h with
  | .d h => exact .d (h.mono hs)
  | .own h => exact .own (h.mono hs)
  | .ptr (id:=id) (b:=b) h => exact .ptr (hi id b h)
  | .ro ys hx hc hsc => exact .ro ys (hx.mono hs) (fun j y hj => hs _ _ _ (hc j y hj)) hsc
  | .func hn h => exact .func (by rw [outVs_notSkp]; exact hn) (outVs_spec h)
  | .bnd h => exact .bnd (outVs_spec h)
  | .tup h => exact .tup (outVs_spec h)
  | .undef => exact .undef
  | .skp => exact .skp
theorem outVs_spec {vs:List PV} {xs:List Value} (h:PEncL o w sig vs xs):PEncL o2 w sig2 (outV.outVs g vs) xs:=by
  match h with
  | .nil => exact .nil
  | .cons hh t => exact .cons (outV_spec hh) (outVs_spec t)
end
end
theorem outV_cap {g:Nat → Nat} (v:PV):(outV g v).cellOk = v.cellOk ∧ ∀ (o:Own) (w:World) p x,Cap o w p v x → Cap o w p (outV g v) x:=by
  cases v <;> exact ⟨rfl,fun _ _ _ _ h => by first | exact h | trivial⟩
theorem outVs_get (g:Nat → Nat):∀ (vs:List PV) k,gt .undef (outV.outVs g vs) k = outV g (gt .undef vs k):=by
  intro vs
  induction vs with
  | nil => intro k; simp [outV.outVs,gt,outV]
  | cons v vs ih => intro k; cases k <;> simp [outV.outVs,gt,ih]
theorem outVs_length (g:Nat → Nat) (vs:List PV):(outV.outVs g vs).length = vs.length:=by
  induction vs with
  | nil => rfl
  | cons v vs ih => simp [outV.outVs,ih]
theorem outV_cmp (g:Nat → Nat) (v:PV) (k:Nat) (x:Value):cmpV (outV g v) k = outV g (cmpV v k) ∧ cmpX (outV g v) x k = cmpX v x k:=by
  cases v
  case tup vs => exact ⟨outVs_get g vs k,by cases x <;> rfl⟩
  all_goals exact ⟨by by_cases h:k = 0 <;> simp [outV,cmpV,h],by cases x <;> rfl⟩
def inP (ids:List Nat) (p:Pl):Pl :=
  match p with
  | .obj i => match idx i ids with | some j => .obj j | none => .ext
  | .cell i off => match idx i ids with | some j => .cell j off | none => .ext
  | p => p
def outP (g:Nat → Nat) (p:Pl):Pl :=
  match p with
  | .obj j => .obj (g j)
  | .cell j off => .cell (g j) off
  | p => p
def hidP (ids:List Nat) (p:Pl):Bool :=
  match p with
  | .obj i => (idx i ids).isNone
  | .cell i _ => (idx i ids).isNone
  | _ => false
theorem inP_hid {ids:List Nat} {p:Pl} (h:hidP ids p = true):inP ids p = .ext:=by
  cases p <;> simp [hidP] at h <;> simp [inP,h]
def outOwn (ids:List Nat) (g:Nat → Nat) (o o' : Own):Own:=fun b =>
  match o b with
  | some (lo,p) => bif hidP ids p then some (lo,p) else rel (outP g) o' b
  | none => rel (outP g) o' b
def PostF (ids:List Nat) (W0:World) (o:Own) (sig:List Nat) (w:World) (out:Out) (H:List PObj) (e:Ending) (w' : World):Prop :=
  Post W0 o sig w out H e w' ∧ ∀ (id b:Nat),idx id ids = none → o b = some (0,.obj id) → w'.heap[b]? = w.heap[b]?
theorem frame_core {S:List PV → List PObj → Option (Out × List PObj)} (ids:List Nat) {args:List PV} {H:List PObj} {out:Out} {H' : List PObj}
    (hs:frameAt ids S args H = some (out,H')) {xs:List Value} (hg:Gl W0 o w) (hh:RelH o sig H w) (hx:PEncL o w sig args xs) :
    ∃ as H1 out2 H2 o1 sig1,S as H1 = some (out2,H2) ∧ Gl W0 o1 w ∧ RelH o1 sig1 H1 w ∧ PEncL o1 w sig1 as xs ∧ (∀ b off x,Stab o w b off x → Stab o1 w b off x) ∧ ∀ e w',Post W0 o1 sig1 w out2 H2 e w' → PostF ids W0 o sig w out H' e w':=by
  unfold PS.frameAt at hs
  rw [bif_some] at hs
  obtain ⟨hnd,hs⟩:=hs
  split at hs
  rotate_left; · simp at hs
  rename_i as has
  split at hs
  rotate_left; · simp at hs
  rename_i H1 hH1
  split at hs
  rotate_left; · simp at hs
  rename_i out2 H2 hcall
  simp only [Option.some.injEq,Prod.mk.injEq] at hs
  obtain ⟨rfl,rfl⟩:=hs
  obtain ⟨hl1,hget1⟩:=subH_get hH1
  have hidlt:∀ (j:Nat) i,ids[j]? = some i → i < H.length:=by
    intro j i hj
    obtain ⟨ob,_,h1,_⟩:=hget1 j i hj
    exact (List.getElem?_eq_some_iff.1 h1).1
  let g:=gid H.length ids
  let o1:Own:=rel (inP ids) o
  let sig1:List Nat:=ids.map fun i => sig.getD i 0
  have hsig1:∀ (j:Nat) i b,ids[j]? = some i → sig[i]? = some b → sig1[j]? = some b:=by
    intro j i b hj hb
    simp only [sig1,List.getElem?_map,hj,Option.map_some,List.getD_eq_getElem?_getD,hb,Option.getD_some]
  have hst1:∀ b off x,Stab o w b off x → Stab o1 w b off x:=fun _ _ _ h => rel_stab h
  have ho1:∀ b lo p,o b = some (lo,p) → o1 b = some (lo,inP ids p):=fun b lo p h => rel_some h
  have hi1:∀ (id j:Nat) b,idx id ids = some j → sig[id]? = some b → sig1[j]? = some b:=fun id j b h1 h2 => hsig1 j id b (idx_get h1) h2
  have hr1:RelH o1 sig1 H1 w:=by
    refine ⟨by simp [sig1,hl1],fun j ob1 hj => ?_⟩
    have hjl:j < ids.length:=by rw [← hl1]; exact (List.getElem?_eq_some_iff.1 hj).1
    have hji:ids[j]? = some ids[j]:=List.getElem?_eq_getElem hjl
    obtain ⟨ob,ob1',h1,h2,h3⟩:=hget1 j _ hji
    rw [hj] at h3; simp at h3; subst h3
    obtain ⟨b,e1,e2,e3⟩:=hh.obj _ ob h1
    have hix:idx ids[j] ids = some j:=idx_nodup hnd hji
    refine ⟨b,hsig1 j _ b hji e1,by rw [ho1 _ _ _ e2]; simp [inP,hix],?_⟩
    cases ob with
    | iter s pos => simp [subO] at h2; subst h2; exact e3
    | cells vs =>
      simp only [subO] at h2
      split at h2
      · rename_i us hus
        simp at h2; subst h2
        obtain ⟨arr,T,h4,h5,h6⟩:=e3
        obtain ⟨u1,u2⟩:=inVs_get hus
        refine ⟨arr,T,h4,by rw [h5,u1],fun off hoff => ?_⟩
        rw [u1] at hoff
        obtain ⟨k1,k2,k3⟩:=h6 off hoff
        obtain ⟨n1,n2⟩:=inV_noOwn (u2 off hoff)
        refine ⟨inV_spec hst1 hi1 k1 (u2 off hoff),n2 _ _ _ _ (k2.mapBlock fun b lo hb => ⟨rfl,?_⟩),by rw [n1]; exact k3⟩
        rw [ho1 _ _ _ hb]; simp [inP,hix]
      · simp at h2
  refine ⟨as,H1,out2,H2,o1,sig1,hcall,hg.relabel _,hr1,inVs_spec hst1 hi1 hx has,hst1,?_⟩
  rintro e w' ⟨o',sig',g',rh',hst',hse',hpost⟩
  have hk:ids.length ≤ H2.length:=by
    rw [← rh'.sigl]
    rcases Nat.eq_zero_or_pos ids.length with h0 | h0
    · omega
    · have:sig1.length = ids.length:=by simp [sig1]
      have h1:sig1[ids.length - 1]? = some sig1[ids.length - 1]:=List.getElem?_eq_getElem (by omega)
      have:=(List.getElem?_eq_some_iff.1 (hse' _ _ h1)).1
      omega
  let o2:Own:=outOwn ids g o o'
  have hidden:∀ b lo p,o b = some (lo,p) → hidP ids p = true → w'.heap[b]? = w.heap[b]? ∧ o' b = some (lo,.ext):=by
    intro b lo p hb hp
    have h1:o1 b = some (lo,.ext):=by rw [ho1 _ _ _ hb,inP_hid hp]
    obtain ⟨e1,e2⟩:=hst'.prot b (hg.fin b (by rw [hb]; simp)) (by rw [h1]; trivial)
    exact ⟨e1,by rw [e2,h1]⟩
  have o2_hid:∀ b lo p,o b = some (lo,p) → hidP ids p = true → o2 b = some (lo,p):=by
    intro b lo p hb hp
    show outOwn ids g o o' b = _
    simp only [outOwn,hb,hp,cond_true]
  have o2_alt:∀ b,(∃ lo p,o b = some (lo,p) ∧ hidP ids p = true) ∨ o2 b = rel (outP g) o' b:=by
    intro b
    cases hb:o b with
    | none => right; show outOwn ids g o o' b = _; simp only [outOwn,hb]
    | some q =>
      obtain ⟨lo,p⟩:=q
      cases hp:hidP ids p with
      | true => exact .inl ⟨lo,p,rfl,hp⟩
      | false => right; show outOwn ids g o o' b = _; simp only [outOwn,hb,hp,cond_false]
  have o2_of:∀ b lo p,o' b = some (lo,p) → p ≠ .ext → o2 b = some (lo,outP g p):=by
    intro b lo p hb hp
    rcases o2_alt b with ⟨lo',q,h1,h2⟩ | h
    · rw [(hidden b lo' q h1 h2).2] at hb
      simp at hb; exact absurd hb.2.symm hp
    · rw [h]; exact rel_some hb
  have hst2:∀ b off x,Stab o' w' b off x → Stab o2 w' b off x:=by
    intro b off x hx
    refine ⟨hx.1,fun lo p hlo => ?_⟩
    rcases o2_alt b with ⟨lo',q,h1,h2⟩ | h
    · rw [o2_hid b lo' q h1 h2] at hlo
      simp at hlo
      exact hlo.1 ▸ hx.2 _ _ (hidden b lo' q h1 h2).2
    · rw [h] at hlo
      unfold rel at hlo
      cases hb:o' b with
      | none => simp [hb] at hlo
      | some q => simp [hb] at hlo; exact hlo.1 ▸ hx.2 q.1 q.2 (by rw [hb])
  have cap2:∀ {p:Pl} {v:PV} {x:Value},p ≠ .ext → Cap o' w' p v x → Cap o2 w' (outP g p) v x:=fun hp hcap => hcap.mapBlock fun b lo hb => ⟨rfl,o2_of b lo _ hb hp⟩
  have hstep:Step o w o2 w':=by
    refine ⟨hst'.os,hst'.tape,hst'.output,hst'.size,fun b hb hp => ?_,fun b off x hx => hst2 _ _ _ (hst'.stab _ _ _ (hst1 _ _ _ hx))⟩
    have h1:o1 b = o b:=by
      show rel (inP ids) o b = o b
      unfold rel
      cases hob:o b with
      | none => rfl
      | some q =>
        obtain ⟨lo,p⟩:=q
        rw [hob] at hp
        cases p <;> simp [Prot] at hp
        rfl
    obtain ⟨e1,e2⟩:=hst'.prot b hb (by rw [h1]; exact hp)
    refine ⟨e1,?_⟩
    rcases o2_alt b with ⟨lo',q,k1,k2⟩ | h
    · rw [o2_hid b lo' q k1 k2,k1]
    · rw [h]
      unfold rel
      rw [e2,h1]
      cases hob:o b with
      | none => rfl
      | some q =>
        obtain ⟨lo,p⟩:=q
        rw [hob] at hp
        cases p <;> simp [Prot] at hp
        rfl
  have hg2:Gl W0 o2 w':=by
    refine ⟨g'.size,fun b hb => ⟨(g'.keep b hb).1,?_⟩,fun b hb => ?_⟩
    · rcases o2_alt b with ⟨lo',q,k1,k2⟩ | h
      · rw [(hg.keep b hb).2] at k1; simp at k1
      · rw [h]; simp [rel,(g'.keep b hb).2]
    · rcases o2_alt b with ⟨lo',q,k1,k2⟩ | h
      · exact Nat.lt_of_lt_of_le (hg.fin b (by rw [k1]; simp)) hst'.size
      · refine g'.fin b fun e => hb ?_
        rw [h]; simp [rel,e]
  let sig2:List Nat:=sig ++ sig'.drop ids.length
  have hi2:∀ (j:Nat) b,sig'[j]? = some b → sig2[g j]? = some b:=by
    intro j b hj
    by_cases hjk:j < ids.length
    · have hji:ids[j]? = some ids[j]:=List.getElem?_eq_getElem hjk
      have hgj:g j = ids[j]:=gid_lt hjk
      have hlt:ids[j] < sig.length:=by rw [hh.sigl]; exact hidlt j _ hji
      have h1:=hse' j _ (hsig1 j _ _ hji (List.getElem?_eq_getElem hlt))
      rw [hj] at h1
      rw [hgj]
      show (sig ++ sig'.drop ids.length)[ids[j]]? = _
      rw [List.getElem?_append_left hlt,List.getElem?_eq_getElem hlt]
      exact h1.symm
    · have hgj:g j = H.length + (j - ids.length):=gid_ge (by omega)
      rw [hgj]
      show (sig ++ sig'.drop ids.length)[H.length + (j - ids.length)]? = _
      rw [List.getElem?_append_right (by rw [hh.sigl]; omega),List.getElem?_drop,hh.sigl]
      rw [show ids.length + (H.length + (j - ids.length) - H.length) = j by omega]
      exact hj
  have hse2:SigExt sig sig2:=fun id b hid => by
    show (sig ++ sig'.drop ids.length)[id]? = _
    rw [List.getElem?_append_left (List.getElem?_eq_some_iff.1 hid).1]; exact hid
  have conv:∀ (j:Nat) b ob,ObjEnc o' w' sig' j b ob → ObjEnc o2 w' sig2 (g j) b (outO g ob):=by
    intro j b ob h
    cases ob with
    | iter s pos => exact h
    | cells vs =>
      obtain ⟨arr,T,h4,h5,h6⟩:=h
      refine ⟨arr,T,h4,by rw [h5,outVs_length],fun off hoff => ?_⟩
      rw [outVs_length] at hoff
      obtain ⟨k1,k2,k3⟩:=h6 off hoff
      rw [outVs_get]
      obtain ⟨n1,n2⟩:=outV_cap (g:=g) (gt .undef vs off)
      exact ⟨outV_spec hst2 hi2 k1,n2 _ _ _ _ (cap2 (p:=.cell j off) (by simp) k2),by rw [n1]; exact k3⟩
  have hrh2:RelH o2 sig2 (putH g H ids H2) w':=by
    refine ⟨?_,fun id ob hid => ?_⟩
    · rw [putH_length hk]
      show (sig ++ sig'.drop ids.length).length = _
      rw [List.length_append,List.length_drop,hh.sigl,rh'.sigl]
    · by_cases hlt:id < H.length
      · cases hix:idx id ids with
        | some j =>
          have hji:=idx_get hix
          rw [putH_in hk hnd hlt hji] at hid
          cases hob:H2[j]? with
          | none => rw [hob] at hid; simp at hid
          | some ob2 =>
            rw [hob] at hid; simp at hid; subst hid
            obtain ⟨b,h1,h2,h3⟩:=rh'.obj j ob2 hob
            have hgj:g j = id:=by
              have hjk:=(List.getElem?_eq_some_iff.1 hji).1
              rw [show g j = ids[j] from gid_lt hjk]
              rw [List.getElem?_eq_getElem hjk] at hji; simpa using hji
            have:=conv j b ob2 h3
            rw [hgj] at this
            refine ⟨b,by rw [← hgj]; exact hi2 j b h1,?_,this⟩
            rw [o2_of b 0 _ h2 (by simp)]; simp [outP,hgj]
        | none =>
          rw [putH_old hk hlt hix] at hid
          obtain ⟨b,h1,h2,h3⟩:=hh.obj id ob hid
          have hhid:hidP ids (.obj id) = true:=by simp [hidP,hix]
          refine ⟨b,hse2 id b h1,o2_hid b 0 _ h2 hhid,?_⟩
          have hsame:=(hidden b 0 _ h2 hhid).1
          cases ob with
          | iter s pos => unfold ObjEnc at *; rw [hsame]; exact h3
          | cells vs =>
            obtain ⟨arr,T,h4,h5,h6⟩:=h3
            refine ⟨arr,T,by rw [hsame]; exact h4,h5,fun off hoff => ?_⟩
            obtain ⟨k1,k2,k3⟩:=h6 off hoff
            refine ⟨k1.mono hstep.stab hse2,k2.mapBlock fun b' lo hb' => ?_,k3⟩
            have hh2:hidP ids (.cell id off) = true:=by simp [hidP,hix]
            exact ⟨(hidden b' lo _ hb' hh2).1,o2_hid b' lo _ hb' hh2⟩
      · obtain ⟨m,rfl⟩:∃ m,id = H.length + m:=⟨id - H.length,by omega⟩
        rw [putH_new hk] at hid
        cases hob:H2[ids.length + m]? with
        | none => rw [hob] at hid; simp at hid
        | some ob2 =>
          rw [hob] at hid; simp at hid; subst hid
          obtain ⟨b,h1,h2,h3⟩:=rh'.obj _ ob2 hob
          have hgj:g (ids.length + m) = H.length + m:=by
            rw [show g (ids.length + m) = H.length + (ids.length + m - ids.length) from gid_ge (by omega)]; congr 1; omega
          have:=conv _ b ob2 h3
          rw [hgj] at this
          refine ⟨b,by rw [← hgj]; exact hi2 _ b h1,?_,this⟩
          rw [o2_of b 0 _ h2 (by simp)]; simp [outP,hgj]
  refine ⟨⟨o2,sig2,hg2,hrh2,hstep,hse2,?_⟩,fun id b hix hb => (hidden b 0 _ hb (by simp [hidP,hix])).1⟩
  cases out2 with
  | ret v =>
    cases e with
    | returned x =>
      obtain ⟨hv,hcap⟩:=hpost
      refine ⟨outV_spec hst2 hi2 hv,fun k => ?_⟩
      obtain ⟨c1,c2⟩:=outV_cmp g v k x
      show Cap o2 w' (.res k) (cmpV (outV g v) k) (cmpX (outV g v) x k)
      rw [c1,c2]
      exact (outV_cap (g:=g) _).2 _ _ _ _ (cap2 (p:=.res k) (by simp) (hcap k))
    | panicked _ => exact hpost.elim
    | outgrown => exact hpost.elim
  | pan v =>
    cases e with
    | returned x => exact hpost.elim
    | panicked chain =>
      obtain ⟨x,hx,rfl⟩:=hpost
      exact ⟨x,hx.mono hst2,rfl⟩
    | outgrown => exact hpost.elim
theorem Sound.frameAt {f:FuncId} {S:List PV → List PObj → Option (Out × List PObj)} (hS:Sound P W0 f S) (ids:List Nat) {args:List PV} {H:List PObj} {out:Out} {H' : List PObj}
    (hs:PS.frameAt ids S args H = some (out,H')) {xs:List Value} (hg:Gl W0 o w) (hh:RelH o sig H w) (hx:PEncL o w sig args xs):Calls P f xs.toArray w (Post W0 o sig w out H'):=by
  obtain ⟨as,H1,out2,H2,o1,sig1,h1,h2,h3,h4,_,h5⟩:=frame_core ids hs hg hh hx
  exact (hS.calls as H1 out2 H2 h1 o1 sig1 w xs h2 h3 h4).mono fun e w' h => (h5 e w' h).1
theorem Sound.frameF {f:FuncId} {S:List PV → List PObj → Option (Out × List PObj)} (hS:Sound P W0 f S) (ids:List Nat) {args:List PV} {H:List PObj} {out:Out} {H' : List PObj}
    (hs:PS.frameAt ids S args H = some (out,H')) {xs:List Value} (hg:Gl W0 o w) (hh:RelH o sig H w) (hx:PEncL o w sig args xs):Calls P f xs.toArray w (PostF ids W0 o sig w out H'):=by
  obtain ⟨as,H1,out2,H2,o1,sig1,h1,h2,h3,h4,_,h5⟩:=frame_core ids hs hg hh hx
  exact (hS.calls as H1 out2 H2 h1 o1 sig1 w xs h2 h3 h4).mono h5
theorem Sound.frame {f:FuncId} {S:List PV → List PObj → Option (Out × List PObj)} (hS:Sound P W0 f S):Sound P W0 f (PS.frame S) :=
  ⟨hS.enters,fun _ _ _ _ hs _ _ _ _ hg hh hx => hS.frameAt _ hs hg hh hx⟩
theorem Sound.frameT {f:FuncId} {S:List PV → List PObj → Tr (Out × List PObj)} (hS:Sound P W0 f fun a h => (S a h).val):Sound P W0 f fun a h => (PS.frameT S a h).val:=by
  have:=hS.frame
  simpa only [frameT_val] using this
end
end Go.PS
end

section
namespace Go.PS
open Go.RowKit
section
variable {P:Program} {C:Ctx} {W0:World} {o:Own} {sig:List Nat} {st:St} {a:Act} {w:World} {R:Type} {tm:Array Value}
  {oper:Oper} {kp:DV → List PObj → Option R} {k:St → Option R} {r:R} {next:Act → World → Prop} {Q:Exit → Act → World → Prop} {sy:Sy}
def Syn (a:Act) (w:World) (sy:Sy):Prop:=∀ t,t < a.tmps.size → SyncAt a w t (sy t)
theorem Syn.nil:Syn a w noSy:=fun _ _ => trivial
theorem getD_ne {tm:Array Value} {t d:Nat} {x:Value} (h:t ≠ d):(tm.setIfInBounds d x).getD t undef = tm.getD t undef:=by
  simp [Ne.symm h]
theorem SyncAt.set {t d:Nat} {g:Org} {x:Value} {w' : World} (h:SyncAt a w t g) (ht:t ≠ d) (hg:g.uses d = false) (hw:∀ b off v,w.cell? ⟨b,off,none⟩ = some v → w'.cell? ⟨b,off,none⟩ = some v) :
    SyncAt (a.put (some d) x) w' t g:=by
  cases g with
  | self => trivial
  | slot v =>
    have hv:v ≠ d:=by rintro rfl; simp [Org.uses] at hg
    simp only [SyncAt,Act.put,getD_ne ht,getD_ne hv] at h ⊢
    exact h
  | cell ad =>
    have hv:ad ≠ d:=by rintro rfl; simp [Org.uses] at hg
    simp only [SyncAt,Act.put,getD_ne ht,getD_ne hv] at h ⊢
    exact fun b off e => hw _ _ _ (h b off e)
theorem SyncAt.keep {t d:Nat} {g:Org} {x:Value} {w' : World} (h:SyncAt a w t g) (ht:t ≠ d) (hw:∀ b off v,w.cell? ⟨b,off,none⟩ = some v → w'.cell? ⟨b,off,none⟩ = some v) :
    SyncAt (a.put (some d) x) w' t (g.keep d):=by
  unfold Org.keep
  cases hg:g.uses d
  · exact h.set ht hg hw
  · trivial
theorem Syn.drop {d:Option Tmp} {x:Value} {w' : World} (h:Syn a w sy) (hw:∀ b off v,w.cell? ⟨b,off,none⟩ = some v → w'.cell? ⟨b,off,none⟩ = some v):Syn (a.put d x) w' (dropO d sy):=by
  cases d with
  | none =>
    intro t ht
    have:=h t ht
    show SyncAt _ _ _ (sy t)
    cases hg:sy t with
    | self => trivial
    | slot v => rw [hg] at this; exact this
    | cell ad => rw [hg] at this; exact fun b off e => hw _ _ _ (this b off e)
  | some d =>
    intro t ht
    show SyncAt _ _ _ (dropS d sy t)
    unfold dropS
    cases hb:Nat.beq t d
    · exact (h t (by simpa [Act.put] using ht)).keep (by rintro rfl; simp at hb) hw
    · trivial
theorem Syn.add {d:Nat} {g:Org} {x:Value} {w' : World} (h:Syn a w sy) (hw:∀ b off v,w.cell? ⟨b,off,none⟩ = some v → w'.cell? ⟨b,off,none⟩ = some v)
    (hg:d < a.tmps.size → SyncAt (a.put (some d) x) w' d g):Syn (a.put (some d) x) w' (addS d g sy):=by
  intro t ht
  show SyncAt _ _ _ (addS d g sy t)
  unfold addS
  cases hb:Nat.beq t d
  · exact (h t (by simpa [Act.put] using ht)).keep (by rintro rfl; simp at hb) hw
  · have:=Nat.eq_of_beq_eq_true hb; subst this
    exact hg (by simpa [Act.put] using ht)
theorem wp_imp {x:Value} {w1:World} (h1:(execOp a.eval oper).run P w = .ok (.value x) w1) (h:oper.wp P a w (fun a' w' => a' = a.put oper.dst x → w' = w1 → next a' w') Q):oper.wp P a w next Q:=by
  unfold Oper.wp at *
  rw [h1] at *
  exact h rfl rfl
structure Conts2 (C:Ctx) (st:St) (sy:Sy) (W0:World) (o:Own) (sig:List Nat) (w:World) (a:Act) (oper:Oper) (kp:DV → List PObj → Option R) (k:St → Option R) (r:R) (next:Act → World → Prop) (Q:Exit → Act → World → Prop):Prop where
  hk:∀ x st' o' sig' w',k st' = some r → Rel W0 o' sig' st' (a.put oper.dst x).tmps w' → Step o w o' w' → SigExt sig sig' → Syn (a.put oper.dst x) w' (syncs C oper st sy) → next (a.put oper.dst x) w'
  hp:∀ v x hp' o' sig' w',kp v hp' = some r → Enc o' w' v x → RelH o' sig' hp' w' → Gl W0 o' w' → Step o w o' w' → SigExt sig sig' → Q (.panic [{ v:=x,recovered:=false }]) a w'
set_option maxHeartbeats 1600000 in
theorem popK_wp (hC:TyOk P C) (hE:EnvOk P W0 C) (hr:Rel W0 o sig st a.tmps w) (hsy:Syn a w sy) (hc:Conts W0 o sig w a oper kp k r next Q)
    (h:popK C sy oper st kp k = some r):oper.wp P a w next Q:=by
  obtain ⟨dst,op,ty,pos,after,guard⟩:=oper
  have hp:(∀ x,op ≠ .move x) → (∀ x,op ≠ .assign x) → (∀ c x y,op ≠ .pick c x y) → pureK C op st (fun v => k (st.put dst v)) = some r → Oper.wp P ⟨dst,op,ty,pos,after,guard⟩ a w next Q:=by
    intro h1 h2 h3 h
    refine pure_wp hC hr hc ?_ ?_ h
    · rintro x vs (e | e)
      · exact absurd e (h1 x)
      · exact absurd e (h2 x)
    · intro c x y vs e
      exact absurd e (h3 c x y)
  cases op with
  | move x =>
    have mvp:(∀ vs,ev st x ≠ .tup vs) → pureK C (.move x) st (fun v => k (st.put dst v)) = some r → Oper.wp P ⟨dst,.move x,ty,pos,after,guard⟩ a w next Q:=by
      intro hn h
      refine pure_wp hC hr hc ?_ ?_ h
      · rintro y vs (e | e)
        · cases e; exact hn vs
        · cases e
      · intro c x y vs e; cases e
    cases x with
    | tmp t =>
      simp only [popK] at h
      split at h
      · rename_i vs hv
        cases hcm:calms vs with
        | true => rw [hcm] at h; exact wp_moveCalm hr hc rfl hv hcm h
        | false => rw [hcm] at h; exact wp_moveTup hr hc rfl hv h
      · rename_i v hv
        exact mvp hv (by simpa only [pureK,ev] using h)
    | const v => exact mvp (ofConst_shape v).1 (by simpa only [popK] using h)
    | func f => exact mvp (by simp [ev]) (by simpa only [popK] using h)
    | global f => exact mvp (by simp [ev]) (by simpa only [popK] using h)
  | assign x =>
    cases x with
    | tmp t =>
      simp only [popK] at h
      split at h
      · rename_i sz vs hv
        exact wp_assignOwn hr hc rfl hv h
      · simp at h
      · rename_i v h1 h2
        refine pure_wp hC hr hc ?_ ?_ (?_:pureK C (.assign (.tmp t)) st (fun v => k (st.put dst v)) = some r)
        · rintro y vs (e | e)
          · cases e
          · cases e; exact h2 vs
        · intro c x y vs e; cases e
        · have:(gt PV.undef st.slots t).plain = gt PV.undef st.slots t:=by
            cases hg:gt PV.undef st.slots t <;> first | rfl | exact absurd hg (h1 _ _)
          simpa only [pureK,ev,this] using h
    | const v =>
      simp only [popK] at h
      have hrun:(execOp a.eval ⟨dst,.assign (.const v),ty,pos,after,guard⟩).run P w = .ok (.value v) w:=by simp [execOp,Act.eval]
      refine wp_value hrun (hc.hk _ _ o sig w h (hr.put ?_ ?_) (.refl _ _) (.refl _))
      · unfold ofConstT
        split
        · exact .own (.slcNil _)
        · exact ofConst_enc ..
      · intro d _ k
        unfold ofConstT
        split
        · exact cap_nil ..
        · exact ofConst_cap ..
    | func f => simp [popK] at h
    | global f => simp [popK] at h
  | pick c x y =>
    simp only [popK] at h
    rw [bif_none_some] at h
    obtain ⟨h1,h⟩:=h
    simp only [Bool.or_eq_false_iff] at h1
    refine pure_wp hC hr hc ?_ ?_ h
    · rintro x vs (e | e) <;> cases e
    · intro c' x' y' vs e
      cases e
      refine ⟨fun e => ?_,fun e => ?_⟩
      · rw [e] at h1; simp [isTup] at h1
      · rw [e] at h1; simp [isTup] at h1
  | extract x i =>
    cases x with
    | tmp t =>
      simp only [popK] at h
      split at h
      · rename_i vs hv
        exact wp_extract hr hc rfl hv h
      · simp at h
    | const v => simp [popK,pureK] at h
    | func v => simp [popK,pureK] at h
    | global v => simp [popK,pureK] at h
  | alloc t =>
    simp only [popK] at h
    rw [bif_none_some] at h
    exact wp_alloc hC hr hc rfl (by intro e; simp [e] at h) h.2
  | box t x => exact wp_box hr hc rfl h
  | load t x =>
    simp only [popK] at h
    obtain ⟨v,y,h1,h2,h3,h4,h5,_⟩:=load_run (oper:=⟨dst,.load t x,ty,pos,after,guard⟩) hC hr rfl h
    exact wp_value h2 (hc.hk _ _ o sig w h1 (hr.put_plain h3 h4 h5) (.refl _ _) (.refl _))
  | store t x y => exact wp_store hC hr hc rfl h
  | panic x => exact wp_panicOp hr hc rfl h
  | typeAssert x xt t ok => exact wp_typeAssert hC hr hc rfl h
  | range t x => exact wp_range hC hr hc rfl h
  | next x s =>
    cases s with
    | true => exact wp_next hr hc rfl h
    | false => simp [popK,pureK] at h
  | call c =>
    obtain ⟨callee,args,ats⟩:=c
    cases callee with
    | builtin b =>
      cases b with
      | append =>
        simp only [popK] at h
        split at h
        · rename_i t x tT tX e1 e2
          split at h
          · rename_i e ht
            rw [bif_none_some] at h
            obtain ⟨h0,h⟩:=h
            simp only [Bool.or_eq_false_iff] at h0
            refine wp_append hC hr hc rfl e1 e2 ht ?_ ?_ (hsy t) h
            · intro e; simp [e] at h0
            · intro e; simp [e] at h0
          · simp at h
        · simp at h
      | _ => exact hp (by simp) (by simp) (by simp) (by simpa only [popK] using h)
    | value f =>
      simp only [popK] at h
      split at h
      · rename_i f' c' hf
        have hf:ev st f = .func f' c':=by
          split at hf
          · rename_i heq; simp at hf; rw [heq,hf.1,hf.2]
          · simp at hf
        split at h
        · rename_i s hs
          obtain ⟨v,hv,h⟩:=Tr.run_some h
          exact wp_callP hr rfl (hE f' _ hs) hf hv fun x o' w' hg hr' => hc.hk x _ o' sig w' h hr' hg.step (.refl _)
        · rename_i s hs
          obtain ⟨⟨out,H⟩,hv,h⟩:=Tr.run_some h
          cases out <;> exact wp_call hr hc rfl (hE f' _ hs) hf hv h
        · rename_i s hs
          obtain ⟨⟨out,H⟩,hv,h⟩:=Tr.run_some h
          cases out <;> exact wp_call hr hc rfl (Sound.frameT (hE f' _ hs)) hf hv h
        · simp at h
      · simp at h
    | _ => exact hp (by simp) (by simp) (by simp) (by simpa only [popK] using h)
  | _ => exact hp (by simp) (by simp) (by simp) (by simpa only [popK] using h)
end
end Go.PS
end
