/-
  THE LIFT, PART A: an abstract machine for the code of a translated program: values without addresses of their own, a heap of numbered rows, no draws. Definitions alone.
-/
import Derived.Calls
import Derived.Orders
import Derived.Test.YtgfkllnaeekjeaaTrie
namespace Go.Lift
noncomputable section
set_option linter.unusedVariables false

/-- an address: the row, its version, the element, the cell in the element, how many cells an element has -/
structure AAddr where
  id : Nat
  ver : Nat
  idx : Nat
  fld : Nat
  es : Nat
  deriving DecidableEq

inductive AVal where
  | undef
  | bool (b : Bool)
  | int (k : IntKind) (n : Int)
  | str (s : List UInt8)
  | ptr (a : Option AAddr)
  | slice (a : Option AAddr) (len cap : Nat)
  | func (fn : Fn) (first captured : List AVal)
  | nilFunc
  | iface (t : TypeId) (v : AVal)
  | nilIface
  | agg (cs : List AVal)
  | tuple (vs : List AVal)
  deriving Inhabited

/-- what is skipped -/
abbrev skipped : AVal := .tuple []

def AVal.cells : AVal → List AVal
  | .agg cs => cs
  | v => [v]

def ofScalar : Value → AVal
  | .bool b => .bool b
  | .int k n => .int k n
  | .string s => .str s.data.toList
  | .pointer none => .ptr none
  | .slice none 0 0 => .slice none 0 0
  | .nilFunc => .nilFunc
  | .nilIface => .nilIface
  | _ => .undef

def ofConst : Value → AVal
  | .agg cs => .agg (cs.toList.map ofScalar)
  | .iface t v => .iface t (ofScalar v)
  | v => ofScalar v

/-! ## types -/

inductive TK where
  | int (k : IntKind) | bool | string | ptr (e : TypeId) | slice (e : TypeId) | array (n : Nat) (e : TypeId)
  | struct (fs : List (Nat × TypeId)) | func | iface (own : Bool) | other
  deriving Inhabited

structure TyD where
  kind : TK
  size : Nat
  bytes : Nat
  zero : Option AVal
  deriving Inhabited

def TK.isAgg : TK → Bool
  | .struct _ | .array _ _ => true
  | _ => false

def tkOf : TypeDesc → TK
  | .int k => .int k
  | .bool => .bool
  | .string => .string
  | .pointer e => .ptr e
  | .slice e => .slice e
  | .array n e => .array n e
  | .struct fs => .struct (fs.toList.map fun f => (f.offset, f.type))
  | .func _ _ _ => .func
  | .interface ms => .iface (!ms.isEmpty)
  | _ => .other

def tyD (P : Program) (t : TypeId) : Option TyD :=
  match P.info? t, P.underlying t with
  | some i, some d => some { kind := tkOf d, size := i.size, bytes := i.bytes, zero := i.zero.map ofConst }
  | _, _ => none

/-- a table of types: what it says is so -/
abbrev Tys := TypeId → Option TyD
def Tys.Ok (D : Tys) (P : Program) : Prop := ∀ t d, D t = some d → tyD P t = some d

/-! ## the heap -/

structure ABlk where
  elems : List AVal
  es : Nat
  exact : Bool
  ro : Bool
  ver : Nat
  minVer : Nat
  forkLen : Nat
  deriving Inhabited

structure AHeap where
  next : Nat
  blks : Trie ABlk

def AHeap.get (h : AHeap) (id : Nat) : Option ABlk := h.blks.get id
def AHeap.set (h : AHeap) (id : Nat) (b : ABlk) : AHeap := { h with blks := h.blks.set id b }

/-- how far a version can be read -/
def ABlk.lim (b : ABlk) (ver : Nat) : Nat :=
  if ver = b.ver then b.elems.length else if b.minVer ≤ ver ∧ ver < b.ver then b.forkLen else 0

def ABlk.elem? (b : ABlk) (ver idx : Nat) : Option AVal :=
  if idx < b.lim ver then b.elems[idx]? else none

/-- a row as it is made -/
def ABlk.made (elems : List AVal) (es : Nat) (exact : Bool) : ABlk :=
  { elems, es, exact, ro := false, ver := 0, minVer := 0, forkLen := 0 }

/-- grown at its end: a version more -/
def ABlk.grow (b : ABlk) (new : List AVal) : ABlk :=
  { b with elems := b.elems ++ new, ver := b.ver + 1, forkLen := if b.minVer = b.ver then b.elems.length else min b.forkLen b.elems.length }

/-- elements written from a place on -/
def putAll (l : List AVal) (i : Nat) : List AVal → List AVal
  | [] => l
  | v :: vs => putAll (l.set i v) (i + 1) vs

def ABlk.put (b : ABlk) (idx : Nat) (vs : List AVal) : ABlk :=
  { b with elems := putAll b.elems idx vs, minVer := b.ver }

/-! ## reading and writing a variable -/

def loadElem (isA : Bool) (size fld : Nat) (e : AVal) : Option AVal :=
  if isA then
    match e with
    | .agg cs => if fld = 0 ∧ size = cs.length then some (.agg cs) else if fld + size ≤ cs.length then some (.agg ((cs.drop fld).take size)) else none
    | _ => none
  else
    match e with
    | .agg cs => cs[fld]?
    | _ => if fld = 0 then some e else none

def aload (D : Tys) (t : TypeId) (a : AAddr) (h : AHeap) : Option AVal :=
  match D t, h.get a.id with
  | some d, some b =>
    match b.elem? a.ver a.idx with
    | some e => loadElem d.kind.isAgg d.size a.fld e
    | none => none
  | _, _ => none

def AVal.simple : AVal → Bool
  | .agg _ | .tuple _ | .undef => false
  | _ => true

/-- cells written into an element from a place on -/
def storeElem (fld : Nat) (v : AVal) (e : AVal) : Option AVal :=
  match e with
  | .agg cs => if fld + v.cells.length ≤ cs.length then some (.agg (putAll cs fld v.cells)) else none
  | _ => if fld = 0 ∧ v.simple then some v else none

def AVal.fits (v : AVal) (isA : Bool) (size : Nat) : Bool :=
  match v with
  | .agg cs => isA && cs.length == size && cs.all (·.simple)
  | .tuple _ => false
  | .undef => false
  | _ => !isA && size == 1

def astore (D : Tys) (t : TypeId) (a : AAddr) (v : AVal) (h : AHeap) : Option AHeap :=
  match D t, h.get a.id with
  | some d, some b =>
    if v.fits d.kind.isAgg d.size && !b.ro && a.ver == b.ver then
      match b.elems[a.idx]? with
      | some e =>
        match storeElem a.fld v e with
        | some e' => some (h.set a.id { b with elems := b.elems.set a.idx e', minVer := b.ver })
        | none => none
      | none => none
    else none
  | _, _ => none

/-! ## plain operations -/

def aint (op : BinOp) (k : IntKind) (x y : Int) : Option AVal :=
  match op with
  | .add => some (.int k (k.wrap (x + y)))
  | .sub => some (.int k (k.wrap (x - y)))
  | .mul => some (.int k (k.wrap (x * y)))
  | .quo => if y = 0 then none else some (.int k (k.wrap (x.tdiv y)))
  | .rem => if y = 0 then none else some (.int k (x.tmod y))
  | .and => some (.int k (k.wrap (BitVec.ofInt k.bits x &&& BitVec.ofInt k.bits y).toNat))
  | .or => some (.int k (k.wrap (BitVec.ofInt k.bits x ||| BitVec.ofInt k.bits y).toNat))
  | .xor => some (.int k (k.wrap (BitVec.ofInt k.bits x ^^^ BitVec.ofInt k.bits y).toNat))
  | .andNot => some (.int k (k.wrap (BitVec.ofInt k.bits x &&& ~~~(BitVec.ofInt k.bits y)).toNat))
  | .eql => some (.bool (x == y))
  | .neq => some (.bool (x != y))
  | .lss => some (.bool (decide (x < y)))
  | .leq => some (.bool (decide (x ≤ y)))
  | .gtr => some (.bool (decide (x > y)))
  | .geq => some (.bool (decide (x ≥ y)))
  | _ => none

def ashift (op : BinOp) (k : IntKind) (x y : Int) : Option AVal :=
  if y < 0 then none else
  match op with
  | .shl => some (.int k (k.wrap (x * 2 ^ (min y.toNat k.bits))))
  | .shr => some (.int k (x.fdiv (2 ^ (min y.toNat k.bits))))
  | _ => none

def astr (op : BinOp) (x y : List UInt8) : Option AVal :=
  match op with
  | .add => if x.length + y.length < 2 ^ 62 then some (.str (x ++ y)) else none
  | .eql => some (.bool (x == y))
  | .neq => some (.bool (!(x == y)))
  | .lss => some (.bool (Op.bytesLess x y))
  | .leq => some (.bool (Op.bytesLess x y || x == y))
  | .gtr => some (.bool (!(Op.bytesLess x y || x == y)))
  | .geq => some (.bool (!Op.bytesLess x y))
  | _ => none

/-- are two cells of a plain type alike? none: they are not both such -/
def cellEq (k : TK) (a b : AVal) : Option Bool :=
  match k, a, b with
  | .int _, .int k a, .int k' b => if k = k' then some (a == b) else none
  | .bool, .bool a, .bool b => some (a == b)
  | .string, .str a, .str b => some (a == b)
  | _, _, _ => none

/-- are two structs of plain fields alike? -/
def structEq (D : Tys) : List (Nat × TypeId) → List AVal → List AVal → Option Bool
  | [], [], [] => some true
  | (_, t) :: fs, a :: x, b :: y =>
    match D t with
    | some d =>
      match cellEq d.kind a b, structEq D fs x y with
      | some p, some q => some (p && q)
      | _, _ => none
    | none => none
  | _, _, _ => none

/-- values held against each other for '=='; lit: one of them is a literal -/
def aequal (D : Tys) (eqT : TypeId → Bool) (lit : Bool) (t : TypeId) (x y : AVal) : Option Bool :=
  match D t with
  | none => none
  | some d =>
    match d.kind, x, y with
    | .bool, .bool a, .bool b => some (a == b)
    | .ptr _, .ptr none, .ptr none => some true
    | .ptr _, .ptr none, .ptr (some _) => some false
    | .ptr _, .ptr (some _), .ptr none => some false
    | .slice _, .slice none _ _, .slice none _ _ => some true
    | .slice _, .slice none _ _, .slice (some _) _ _ => some false
    | .slice _, .slice (some _) _ _, .slice none _ _ => some false
    | .func, .nilFunc, .nilFunc => some true
    | .func, .nilFunc, .func _ _ _ => some false
    | .func, .func _ _ _, .nilFunc => some false
    | .iface _, .nilIface, .nilIface => if lit then some true else none
    | .iface _, .nilIface, .iface _ _ => some false
    | .iface _, .iface _ _, .nilIface => some false
    | .struct fs, .agg x, .agg y => if eqT t then structEq D fs x y else none
    | _, _, _ => none

def abin (D : Tys) (eqT : TypeId → Bool) (lit : Bool) (op : BinOp) (t : TypeId) (x y : AVal) : Option AVal :=
  match x, y with
  | .int k a, .int k' b =>
    match op with
    | .shl | .shr => ashift op k a b
    | _ => if k = k' then aint op k a b else none
  | .str a, .str b => astr op a b
  | _, _ =>
    match op with
    | .eql => (aequal D eqT lit t x y).map fun b => .bool b
    | .neq => (aequal D eqT lit t x y).map fun b => .bool (!b)
    | _ => none

def aunary (op : UnOp) (x : AVal) : Option AVal :=
  match op, x with
  | .neg, .int k n => some (.int k (k.wrap (0 - n)))
  | .not, .bool b => some (.bool (!b))
  | .xor, .int k n => aint .xor k (if k.signed then -1 else k.max) n
  | _, _ => none

def amax2 : AVal → AVal → Option AVal
  | .int k x, .int k' y => if k = k' then some (.int k (if y > x then y else x)) else none
  | _, _ => none

def amin2 : AVal → AVal → Option AVal
  | .int k x, .int k' y => if k = k' then some (.int k (if y < x then y else x)) else none
  | _, _ => none

def afold (f : AVal → AVal → Option AVal) : AVal → List AVal → Option AVal
  | x, [] => some x
  | x, y :: r =>
    match f x y with
    | some z => afold f z r
    | none => none

/-! ## slices -/

def AVal.known : AVal → Bool
  | .undef => false
  | _ => true

/-- parts filled into cells (composite literals) -/
def afill (place : Nat → Option (Nat × Nat)) (cells : List AVal) : List (Nat × AVal) → Option (List AVal)
  | [] => some cells
  | (i, v) :: rest =>
    match place i with
    | none => none
    | some (off, size) =>
      if v.cells.length = size ∧ off + size ≤ cells.length ∧ v.known = true then afill place (putAll cells off v.cells) rest else none

/-- which sizes the fields have: they are all known -/
def fieldsKnown (D : Tys) (fs : List (Nat × TypeId)) : Bool := fs.all fun f => (D f.2).isSome

def abuild (D : Tys) (t : TypeId) (parts : List (Nat × AVal)) : Option AVal :=
  match D t with
  | some d =>
    match d.kind, d.zero with
    | .struct fs, some z =>
      if z.known = true ∧ fieldsKnown D fs = true then
        (afill (fun i => match fs[i]? with | some (off, ft) => (D ft).map fun x => (off, x.size) | none => none) z.cells parts).map .agg
      else none
    | .array _ e, some z =>
      match D e with
      | some x => if z.known = true then (afill (fun i => some (i * x.size, x.size)) z.cells parts).map .agg else none
      | none => none
    | _, _ => none
  | none => none

def setParts (l : List AVal) : List (Nat × AVal) → Option (List AVal)
  | [] => some l
  | (i, v) :: rest => if i < l.length then setParts (l.set i v) rest else none

def newSlice (nid es len cap : Nat) : AVal := .slice (some ⟨nid, 0, 0, 0, es⟩) len cap

def abuildSlice (D : Tys) (t : TypeId) (len : Nat) (parts : List (Nat × AVal)) (nid : Nat) (h : AHeap) : Option (AVal × AHeap) :=
  match D t with
  | some d =>
    match d.kind with
    | .slice e =>
      match D e with
      | some x =>
        match x.zero with
        | some z =>
          if len * x.size ≤ 2 ^ 24 ∧ 0 < x.size ∧ z.fits x.kind.isAgg x.size ∧ (parts.all fun p => p.2.fits x.kind.isAgg x.size) then
            match setParts (List.replicate len z) parts with
            | some l => some (newSlice nid x.size len len, h.set nid (.made l x.size true))
            | none => none
          else none
        | none => none
      | none => none
    | _ => none
  | none => none

def amakeSlice (D : Tys) (t : TypeId) (len cap : AVal) (nid : Nat) (h : AHeap) : Option (AVal × AHeap) :=
  match D t, len, cap with
  | some d, .int _ l, .int _ c =>
    match d.kind with
    | .slice e =>
      match D e with
      | some x =>
        match x.zero with
        | some z =>
          if 0 ≤ l ∧ l ≤ c ∧ c < 2 ^ 62 ∧ x.bytes * c ≤ 2 ^ 48 ∧ 0 < x.size ∧ z.fits x.kind.isAgg x.size then
            some (newSlice nid x.size l.toNat c.toNat, h.set nid (.made (List.replicate c.toNat z) x.size true))
          else none
        | none => none
      | none => none
    | _ => none
  | _, _, _ => none

/-- a bound of a slice expression -/
def abound (v : Option AVal) (dflt most : Nat) : Option Nat :=
  match v with
  | none => some dflt
  | some (.int _ i) => if 0 ≤ i ∧ i ≤ most then some i.toNat else none
  | _ => none

def aslice (D : Tys) (t : TypeId) (x : AVal) (lo hi mx : Option AVal) : Option AVal :=
  match D t, x with
  | some d, .slice a len cap =>
    match d.kind with
    | .slice e =>
      match D e, abound mx cap cap with
      | some xd, some m =>
        match abound hi len m with
        | some hh =>
          match abound lo 0 hh with
          | some l =>
            if mx.isSome ∧ hi.isNone then none else
            match a with
            | none => some (.slice none (hh - l) (m - l))
            | some a => if a.es = xd.size then some (.slice (some { a with idx := a.idx + l }) (hh - l) (m - l)) else none
          | none => none
        | none => none
      | _, _ => none
    | _ => none
  | some d, .str s =>
    match d.kind with
    | .string =>
      if mx.isSome then none else
      match abound hi s.length s.length with
      | some hh =>
        match abound lo 0 hh with
        | some l => some (.str ((s.take hh).drop l))
        | none => none
      | none => none
    | _ => none
  | _, _ => none

def aindexAddr (D : Tys) (t : TypeId) (x i : AVal) : Option AVal :=
  match D t, x, i with
  | some d, .slice (some a) len _, .int _ i =>
    match d.kind with
    | .slice e =>
      match D e with
      | some xd => if 0 ≤ i ∧ i < len ∧ a.es = xd.size then some (.ptr (some { a with idx := a.idx + i.toNat })) else none
      | none => none
    | _ => none
  | some d, .ptr (some a), .int _ i =>
    match d.kind with
    | .array n e =>
      match D e with
      | some xd => if 0 ≤ i ∧ i < n then some (.ptr (some { a with fld := a.fld + i.toNat * xd.size })) else none
      | none => none
    | _ => none
  | _, _, _ => none

def apart (D : Tys) (t : TypeId) (cs : List AVal) (off : Nat) : Option AVal :=
  match D t with
  | some d => if d.kind.isAgg then (if off + d.size ≤ cs.length then some (.agg ((cs.drop off).take d.size)) else none) else cs[off]?
  | none => none

def aindex (D : Tys) (t : TypeId) (x i : AVal) : Option AVal :=
  match D t, x, i with
  | some d, .agg cs, .int _ i =>
    match d.kind with
    | .array n e =>
      match D e with
      | some xd => if 0 ≤ i ∧ i < n then apart D e cs (i.toNat * xd.size) else none
      | none => none
    | _ => none
  | some d, .str s, .int _ i =>
    match d.kind with
    | .string => if 0 ≤ i then (s[i.toNat]?).map fun b => .int .u8 b.toNat else none
    | _ => none
  | _, _, _ => none

def afieldAddr (D : Tys) (t : TypeId) (x : AVal) (f : Nat) : Option AVal :=
  match D t, x with
  | some d, .ptr (some a) =>
    match d.kind with
    | .struct fs =>
      match fs[f]? with
      | some (off, ft) =>
        match D ft with
        | some fd => if 0 < fd.size then some (.ptr (some { a with fld := a.fld + off })) else none
        | none => none
      | none => none
    | _ => none
  | _, _ => none

def afield (D : Tys) (t : TypeId) (x : AVal) (f : Nat) : Option AVal :=
  match D t, x with
  | some d, .agg cs =>
    match d.kind with
    | .struct fs =>
      match fs[f]? with
      | some (off, ft) => apart D ft cs off
      | none => none
    | _ => none
  | _, _ => none

/-- the elements that a slice (or, of bytes, a string) has -/
def elemsOf (es : Nat) (x : AVal) (h : AHeap) : Option (List AVal) :=
  match x with
  | .slice none 0 _ => some []
  | .slice (some a) len _ =>
    if a.es = es then
      match h.get a.id with
      | some b => if len = 0 then some [] else if a.idx + len ≤ b.lim a.ver ∧ a.idx + len ≤ b.elems.length then some ((b.elems.drop a.idx).take len) else none
      | none => if len = 0 then some [] else none
    else none
  | .str s => if es = 1 then some (s.map fun b => .int .u8 b.toNat) else none
  | _ => none

/-- is the zero value known, and of the type's size? -/
def TyD.zeroFits (d : TyD) : Bool :=
  match d.zero with
  | some z => z.fits d.kind.isAgg d.size
  | none => false

/-- 'append(s, x..)' -/
def aappend (D : Tys) (t : TypeId) (s x : AVal) (nid : Nat) (h : AHeap) : Option (AVal × AHeap) :=
  match D t, s with
  | some d, .slice base len cap =>
    match d.kind with
    | .slice e =>
      match D e with
      | some xd =>
        match elemsOf xd.size x h with
        | some new =>
          let need := len + new.length
          if 0 < xd.size ∧ (need + need / 4 + 512) * xd.bytes ≤ 2 ^ 48 ∧ need < 2 ^ 62 ∧ xd.zeroFits = true then
            match base with
            | none => if need = 0 then some (.slice none 0 cap, h) else if cap = 0 ∧ len = 0 then some (newSlice nid xd.size need need, h.set nid (.made new xd.size false)) else none
            | some a =>
              if a.es = xd.size then
                match h.get a.id with
                | some b =>
                  if need ≤ cap then
                    -- it fits: the cells are written where they lie
                    if new = [] then some (.slice base need cap, h) else
                    if b.ro = false ∧ a.ver = b.ver ∧ a.idx + need ≤ b.elems.length then some (.slice base need cap, h.set a.id (b.put (a.idx + len) new)) else none
                  else if b.exact then
                    match elemsOf xd.size s h with
                    | some old => some (newSlice nid xd.size need need, h.set nid (.made (old ++ new) xd.size false))
                    | none => none
                  else if b.ro = false ∧ a.ver = b.ver ∧ a.idx + len = b.elems.length ∧ new ≠ [] then
                    some (.slice (some { a with ver := a.ver + 1 }) need need,
                      h.set a.id (b.grow new))
                  else none
                | none => none
              else none
          else none
        | none => none
      | none => none
    | _ => none
  | _, _ => none

/-- 'copy(dst, src)' -/
def acopy (D : Tys) (t : TypeId) (s x : AVal) (h : AHeap) : Option (AVal × AHeap) :=
  match D t, s with
  | some d, .slice base len _ =>
    match d.kind with
    | .slice e =>
      match D e with
      | some xd =>
        match elemsOf xd.size x h with
        | some src =>
          let new := src.take len
          match base with
          | none => some (.int .i64 0, h)
          | some a =>
            if new = [] then some (.int .i64 0, h) else
            if a.es = xd.size then
              match h.get a.id with
              | some b =>
                if b.ro = false ∧ a.ver = b.ver ∧ a.idx + new.length ≤ b.elems.length then some (.int .i64 new.length, h.set a.id (b.put a.idx new)) else none
              | none => none
            else none
        | none => none
      | none => none
    | _ => none
  | _, _ => none

def alen (D : Tys) (t : TypeId) (x : AVal) : Option AVal :=
  match D t, x with
  | some d, .slice _ n _ => match d.kind with | .slice _ => some (.int .i64 n) | _ => none
  | some d, .str s => match d.kind with | .string => some (.int .i64 s.length) | _ => none
  | some d, _ => match d.kind with | .array n _ => some (.int .i64 n) | _ => none
  | _, _ => none

def aconvert (D : Tys) (src dst : TypeId) (x : AVal) : Option AVal :=
  match D src, D dst, x with
  | some _, some d, .int _ n => match d.kind with | .int k => some (.int k (k.wrap n)) | _ => none
  | some _, some d, .str s => match d.kind with | .string => some (.str s) | _ => none
  | _, _, _ => none

/-! ## one operation -/

abbrev ACall := FuncId → List AVal → AHeap → Option (AVal × AHeap)

/-- a function whose answer is known by other means -/
abbrev APrim := List AVal → AHeap → Option (AVal × AHeap)

structure AEnv where
  D : Tys
  eqs : List TypeId
  prim : FuncId → Option APrim := fun _ => none

def AEnv.eqT (E : AEnv) (t : TypeId) : Bool := E.eqs.contains t

def agetOp (s : List AVal) : Operand → AVal
  | .tmp t => s.getD t .undef
  | .const v => ofConst v
  | .global _ => .undef
  | .func f => .func (.func f) [] []

def isLit : Operand → Bool
  | .const _ => true
  | _ => false

def acallVal (call : ACall) (f : AVal) (args : List AVal) (h : AHeap) : Option (AVal × AHeap) :=
  match f with
  | .func (.func g) first captured => call g (first ++ args ++ captured) h
  | _ => none

def abuiltin (E : AEnv) (b : Builtin) (ts : Array TypeId) (args : List AVal) (nid : Nat) (h : AHeap) : Option (AVal × AHeap) :=
  match b with
  | .len =>
    match args, ts[0]? with
    | [x], some t => (alen E.D t x).map fun v => (v, h)
    | _, _ => none
  | .append =>
    match args, ts[0]?, ts[1]? with
    | [s, x], some t, some u => match E.D u with | some ud => (match ud.kind with | .slice _ => aappend E.D t s x nid h | .string => aappend E.D t s x nid h | _ => none) | none => none
    | _, _, _ => none
  | .max =>
    match args with
    | x :: r => (afold amax2 x r).map fun v => (v, h)
    | _ => none
  | .min =>
    match args with
    | x :: r => (afold amin2 x r).map fun v => (v, h)
    | _ => none
  | _ => none

def aop (E : AEnv) (call : ACall) (nid : Nat) (ρ : Operand → AVal) (h : AHeap) (o : Op) : Option (AVal × AHeap) :=
  match o with
  | .move x | .assign x => some (ρ x, h)
  | .pick c a b => match ρ c with | .bool t => some (if t then ρ a else ρ b, h) | _ => none
  | .alloc t =>
    match E.D t with
    | some d => match d.zero with | some z => if z.fits d.kind.isAgg d.size && decide (0 < d.size) then some (.ptr (some ⟨nid, 0, 0, 0, d.size⟩), h.set nid (.made [z] d.size true)) else none | none => none
    | none => none
  | .box t x =>
    match E.D t with
    | some d => if (ρ x).fits d.kind.isAgg d.size && decide (0 < d.size) then some (.ptr (some ⟨nid, 0, 0, 0, d.size⟩), h.set nid (.made [ρ x] d.size true)) else none
    | none => none
  | .build t parts => (abuild E.D t (parts.toList.map fun p => (p.1, ρ p.2))).map fun v => (v, h)
  | .buildSlice t n parts => abuildSlice E.D t n (parts.toList.map fun p => (p.1, ρ p.2)) nid h
  | .load t a => match ρ a with | .ptr (some a) => (aload E.D t a h).map fun v => (v, h) | _ => none
  | .store t a x => match ρ a with | .ptr (some a) => (astore E.D t a (ρ x) h).map fun h' => (skipped, h') | _ => none
  | .nilCheck x => match ρ x with | .ptr (some a) => some (.ptr (some a), h) | .func (.func g) fs cs => some (.func (.func g) fs cs, h) | _ => none
  | .binOp op t x y _ => (abin E.D E.eqT (isLit x || isLit y) op t (ρ x) (ρ y)).map fun v => (v, h)
  | .unOp op _ x => (aunary op (ρ x)).map fun v => (v, h)
  | .convert s d x => (aconvert E.D s d (ρ x)).map fun v => (v, h)
  | .makeFunc (.func g) fs cs => some (.func (.func g) (fs.toList.map ρ) (cs.toList.map ρ), h)
  | .makeSlice t l c => amakeSlice E.D t (ρ l) (ρ c) nid h
  | .slice t x lo hi mx => (aslice E.D t (ρ x) (lo.map ρ) (hi.map ρ) (mx.map ρ)).map fun v => (v, h)
  | .fieldAddr t x f => (afieldAddr E.D t (ρ x) f).map fun v => (v, h)
  | .field t x f => (afield E.D t (ρ x) f).map fun v => (v, h)
  | .indexAddr t x i => (aindexAddr E.D t (ρ x) (ρ i)).map fun v => (v, h)
  | .index t x i => (aindex E.D t (ρ x) (ρ i)).map fun v => (v, h)
  | .extract x i => match ρ x with | .tuple vs => (vs[i]?).map fun v => (v, h) | _ => none
  | .call c =>
    match c.callee with
    | .value f => acallVal call (ρ f) (c.args.toList.map ρ) h
    | .builtin b => abuiltin E b c.argTypes (c.args.toList.map ρ) nid h
    | _ => none
  | _ => none

/-! ## regions, code, calls -/

structure ASt where
  slots : List AVal
  heap : AHeap

def aput (s : List AVal) (dst : Option Tmp) (v : AVal) : List AVal :=
  match dst with
  | some d => s.set d v
  | none => s

/-- does the guard of an operation let it run? none: it is not known -/
def awanted (ops : Array Oper) (s : List AVal) (o : Oper) : Option Bool :=
  match o.guard with
  | none => some true
  | some (j, want) =>
    match (ops[j]?).bind (·.dst) with
    | some d =>
      match s[d]? with
      | some (.bool b) => some (b == want)
      | some (.tuple []) => some false
      | _ => none
    | none => none

def astep (E : AEnv) (call : ACall) (ops : Array Oper) (n0 : Nat) (i : Nat) (s : ASt) : Option ASt :=
  match ops[i]? with
  | none => some s
  | some o =>
    match awanted ops s.slots o with
    | some true =>
      match aop E call (n0 + i) (agetOp s.slots) s.heap o.op with
      | some (v, h) => some ⟨aput s.slots o.dst v, h⟩
      | none => none
    | some false => some ⟨aput s.slots o.dst skipped, s.heap⟩
    | none => none

def arun (E : AEnv) (call : ACall) (ops : Array Oper) (n0 : Nat) : List Nat → ASt → Option ASt
  | [], s => some s
  | i :: r, s =>
    match astep E call ops n0 i s with
    | some s' => arun E call ops n0 r s'
    | none => none

inductive AExit where
  | normal | exit (id : Nat) | goto (l : Nat) | ret
  deriving DecidableEq

/-! ### regions that draw their order -/

inductive Cls where
  | pure | load | alloc | call | other
  deriving DecidableEq

/-- what an operation has to do with memory -/
def cls : Op → Cls
  | .move _ | .assign _ | .pick _ _ _ | .build _ _ | .nilCheck _ | .binOp _ _ _ _ _ | .unOp _ _ _ | .convert _ _ _ | .makeFunc _ _ _ | .slice _ _ _ _ _
  | .fieldAddr _ _ _ | .field _ _ _ | .indexAddr _ _ _ | .index _ _ _ | .extract _ _ => .pure
  | .load _ _ => .load
  | .alloc _ | .box _ _ | .buildSlice _ _ _ | .makeSlice _ _ _ => .alloc
  | .call c =>
    match c.callee with
    | .value _ => .call
    | .builtin .len | .builtin .max | .builtin .min => .pure
    | _ => .other
  | _ => .other

def binding (e : Edge) : Bool := Region.binds .any e

/-- for each operation those that stand ahead of it, as bits -/
def aheads (ops : Array Oper) : Array Nat :=
  ops.toList.foldl (fun acc o => acc.push (o.after.toList.foldl (fun s e => if binding e then s ||| 2 ^ e.on ||| acc.getD e.on 0 else s) 0)) #[]

/-- does i stand ahead of j? -/
def ordered (bf : Array Nat) (i j : Nat) : Bool := (bf.getD j 0).testBit i

def tmpsOf (xs : List Operand) : List Tmp := xs.filterMap fun | .tmp t => some t | _ => none

/-- the slots that an operation reads -/
def readsOf (ops : Array Oper) (o : Oper) : List Tmp :=
  tmpsOf o.op.operands.toList ++ (match o.guard with | some (g, _) => ((ops[g]?).bind (·.dst)).toList | none => [])

def apartOps (ops : Array Oper) (x y : Oper) : Bool :=
  (match x.dst with | some d => !(readsOf ops y).contains d && !(y.dst == some d) | none => true) &&
  (match y.dst with | some d => !(readsOf ops x).contains d | none => true)

/-- may the two be run in either order? -/
def pairOk : Cls → Cls → Bool
  | .pure, _ | _, .pure => true
  | .load, .load | .load, .alloc | .alloc, .load | .alloc, .alloc | .call, .load | .load, .call => true
  | _, _ => false

def drawOk (ops : Array Oper) : Bool :=
  let bf := aheads ops
  (List.range ops.size).all fun j =>
    match ops[j]? with
    | none => true
    | some y =>
      (y.after.toList.all fun e => !binding e || decide (e.on < j)) &&
      (List.range j).all fun i =>
        ordered bf i j ||
        match ops[i]? with
        | none => true
        | some x => pairOk (cls x.op) (cls y.op) && apartOps ops x y

mutual
def AVal.same : AVal → AVal → Bool
  | .undef, .undef => true
  | .bool a, .bool b => a == b
  | .int k a, .int l b => decide (k = l) && a == b
  | .str a, .str b => a == b
  | .ptr a, .ptr b => decide (a = b)
  | .slice a n c, .slice b m d => decide (a = b) && n == m && c == d
  | .func f a b, .func g c d => decide (f = g) && AVal.sames a c && AVal.sames b d
  | .nilFunc, .nilFunc => true
  | .iface t a, .iface u b => t == u && AVal.same a b
  | .nilIface, .nilIface => true
  | .agg a, .agg b => AVal.sames a b
  | .tuple a, .tuple b => AVal.sames a b
  | _, _ => false
def AVal.sames : List AVal → List AVal → Bool
  | [], [] => true
  | a :: x, b :: y => AVal.same a b && AVal.sames x y
  | _, _ => false
end

def ABlk.same (a b : ABlk) : Bool :=
  AVal.sames a.elems b.elems && a.es == b.es && a.exact == b.exact && a.ro == b.ro && a.ver == b.ver && a.minVer == b.minVer && a.forkLen == b.forkLen

/-- are the rows below 'lim' as they were? -/
def sameOld (lim : Nat) (h h' : AHeap) : Bool := Trie.sameBelow ABlk.same lim h'.blks h.blks 0 1

/-- is there a load that may be run on either side of the call j? -/
def looseCall (ops : Array Oper) (bf : Array Nat) (j : Nat) : Bool :=
  (List.range ops.size).any fun i =>
    match ops[i]? with
    | some x => decide (cls x.op = .load) && !ordered bf i j && !ordered bf j i
    | none => false

def loadId (ρ : Operand → AVal) : Op → Option Nat
  | .load _ x => match ρ x with | .ptr (some a) => some a.id | _ => none
  | _ => none

/-- one operation of a region that draws -/
def dop (E : AEnv) (call : ACall) (ops : Array Oper) (n0 j : Nat) (ρ : Operand → AVal) (h : AHeap) (o : Op) : Option (AVal × AHeap) :=
  match cls o with
  | .load =>
    match loadId ρ o with
    | some b => if b < n0 ∨ (b < n0 + ops.size ∧ ordered (aheads ops) (b - n0) j = true) then aop E call (n0 + j) ρ h o else none
    | none => none
  | .call =>
    match aop E call (n0 + j) ρ h o with
    | some (v, h') => if looseCall ops (aheads ops) j then (if sameOld (n0 + ops.size) h h' then some (v, h') else none) else some (v, h')
    | none => none
  | _ => aop E call (n0 + j) ρ h o

def dstep (E : AEnv) (call : ACall) (ops : Array Oper) (n0 : Nat) (i : Nat) (s : ASt) : Option ASt :=
  match ops[i]? with
  | none => some s
  | some o =>
    match awanted ops s.slots o with
    | some true =>
      match dop E call ops n0 i (agetOp s.slots) s.heap o.op with
      | some (v, h) => some ⟨aput s.slots o.dst v, h⟩
      | none => none
    | some false => some ⟨aput s.slots o.dst skipped, s.heap⟩
    | none => none

def drun (E : AEnv) (call : ACall) (ops : Array Oper) (n0 : Nat) : List Nat → ASt → Option ASt
  | [], s => some s
  | i :: r, s =>
    match dstep E call ops n0 i s with
    | some s' => drun E call ops n0 r s'
    | none => none

def aregion (E : AEnv) (call : ACall) (ops : Array Oper) (draw : Bool) (s : ASt) : Option ASt :=
  if draw then
    (if drawOk ops then drun E call ops s.heap.next (List.range ops.size) ⟨s.slots, { s.heap with next := s.heap.next + ops.size }⟩ else none)
  else arun E call ops s.heap.next (List.range ops.size) ⟨s.slots, { s.heap with next := s.heap.next + ops.size }⟩

/-- the code c; within the scope of 'body', where one is given -/
def aexec (E : AEnv) (call : ACall) : Nat → Option Code → Code → ASt → Option (AExit × ASt)
  | 0, _, _, _ => none
  | n + 1, some body, c, s =>
    match aexec E call n none c s with
    | some (.goto l, s') =>
      match findLabel body l with
      | some rest => aexec E call n (some body) rest s'
      | none => some (.goto l, s')
    | r => r
  | n + 1, none, c, s =>
    match c with
    | .skip => some (.normal, s)
    | .label _ => some (.normal, s)
    | .region _ ops draw => (aregion E call ops draw s).map fun s' => (.normal, s')
    | .seq a b =>
      match aexec E call n none a s with
      | some (.normal, s') => aexec E call n none b s'
      | r => r
    | .cond x a b =>
      match agetOp s.slots x with
      | .bool true => aexec E call n none a s
      | .bool false => aexec E call n none b s
      | _ => none
    | .block id c =>
      match aexec E call n none c s with
      | some (.exit j, s') => some (if j = id then .normal else .exit j, s')
      | r => r
    | .loop c =>
      match aexec E call n none c s with
      | some (.normal, s') => aexec E call n none (.loop c) s'
      | r => r
    | .scope c => aexec E call n (some c) c s
    | .goto l => some (.goto l, s)
    | .exit id => some (.exit id, s)
    | .ret => some (.ret, s)
    | _ => none

def aresults (D : Tys) (rs : List ResultVar) (s : ASt) : Option (List AVal) :=
  match rs with
  | [] => some []
  | .tmp t :: r => (aresults D r s).map fun l => s.slots.getD t .undef :: l
  | .cell a t :: r =>
    match s.slots.getD a .undef with
    | .ptr (some p) =>
      match aload D t p s.heap, aresults D r s with
      | some v, some l => some (v :: l)
      | _, _ => none
    | _ => none

def aresult : List AVal → AVal
  | [v] => v
  | l => .tuple l

def acall (P : Program) (E : AEnv) : Nat → ACall
  | 0, _, _, _ => none
  | n + 1, f, args, h =>
    match E.prim f with
    | some g => g args h
    | none =>
    match P.funcs[f]? with
    | some fn =>
      match fn.body with
      | some c =>
        match aexec E (acall P E n) n none c ⟨args ++ List.replicate (fn.ntmps - args.length) skipped, h⟩ with
        | some (.exit _, _) => none
        | some (.goto _, _) => none
        | some (_, s) => (aresults E.D fn.results.toList s).map fun l => (aresult l, s.heap)
        | none => none
      | none => none
    | none => none

end
end Go.Lift
