import Derived.Calls
import Derived.Orders
import Derived.Below
import Derived.Laws.Sem
import Derived.Laws.World
set_option linter.unusedVariables false
set_option linter.unusedSimpArgs false
noncomputable section
namespace Go.Proofs.YtgjddachhhmimaaGreatDoor.Ax
open Go.RowKit

/-! ## A small machine beside the model: memory as a list of rows, without capacities, orders and numbers of blocks -/

/-- From here on a number stands for a capacity that is not known (behind an append that grew). -/
def capX : Nat := 4611686018427387904

/-- l[i]?, by the recursor: little to unfold. -/
noncomputable def nthR {α : Type} (i : Nat) : List α → Option α :=
  Nat.rec (motive := fun _ => List α → Option α) (fun l => List.rec (motive := fun _ => Option α) none (fun a _ _ => some a) l) (fun _ ih l => List.rec (motive := fun _ => Option α) none (fun _ r _ => ih r) l) i
noncomputable def setR {α : Type} (v : α) (i : Nat) : List α → List α :=
  Nat.rec (motive := fun _ => List α → List α) (fun l => List.rec (motive := fun _ => List α) [] (fun _ r _ => v :: r) l) (fun _ ih l => List.rec (motive := fun _ => List α) [] (fun a r _ => a :: ih r) l) i
theorem nthR_eq {α : Type} : ∀ (i : Nat) (l : List α), nthR i l = l[i]?
  | 0, [] => rfl
  | 0, _ :: _ => rfl
  | _ + 1, [] => rfl
  | i + 1, _ :: r => (nthR_eq i r).trans (by simp)
theorem setR_eq {α : Type} (v : α) : ∀ (i : Nat) (l : List α), setR v i l = l.set i v
  | 0, [] => rfl
  | 0, _ :: _ => rfl
  | _ + 1, [] => rfl
  | i + 1, a :: r => congrArg (a :: ·) (setR_eq v i r)

/-- A row of memory. fz: (1, _): nothing of it is frozen but what lies behind its end; (0, k): only cells below k may be. ex: it has no more cells than these. -/
inductive AObj where
  | cells (c : List Value) (t : TypeId) (fz : Nat × Nat) (ex : Bool)
  | map (es : List MapEntry) (clock : Nat)
  | mapIter (m : Option Nat) (since : Nat) (seen : List Nat) (stepped : Nat)
  | strIter (s : ByteArray) (pos : Nat)
  | dead
  deriving Inhabited

def AObj.alive : AObj → Bool
  | .dead => false
  | _ => true

structure AH where
  n : Nat
  l : List AObj

def AH.get (h : AH) (b : Nat) : AObj := if b < h.n then (nthR (h.n - 1 - b) h.l).getD .dead else .dead
def AH.set (h : AH) (b : Nat) (o : AObj) : AH := ⟨h.n, setR o (h.n - 1 - b) h.l⟩
def AH.push (h : AH) (o : AObj) : AH := ⟨h.n + 1, o :: h.l⟩
/-- k dead rows more. -/
def AH.room (h : AH) : Nat → AH
  | 0 => h
  | k + 1 => (h.room k).push .dead

def rigidA (N : Nat) : Option Addr → Bool
  | none => true
  | some a => decide (a.block < N) && a.spot.isNone
mutual
/-- A value in which no row of ours is named. -/
def rigid (N : Nat) : Value → Bool
  | .bool _ | .int _ _ | .float _ _ | .string _ | .nilFunc | .nilIface => true
  | .complex _ _ _ => true
  | .pointer a => rigidA N a
  | .slice none _ _ => true
  | .slice (some _) _ _ => false
  | .map none => true
  | .map (some _) => false
  | .chan _ => false
  | .func _ ⟨f⟩ ⟨c⟩ => rigids N f && rigids N c
  | .iface _ v => rigid N v
  | .agg ⟨cs⟩ => rigids N cs
  | .tuple ⟨vs⟩ => rigids N vs
def rigids (N : Nat) : List Value → Bool
  | [] => true
  | v :: r => rigid N v && rigids N r
end

/-- What an act of the model yields whatever the world. -/
def pv {α : Type} (P : Program) : Sem α → Option α
  | .pure a => some a
  | .program k => pv P (k P)
  | .mark _ k => pv P k
  | _ => none

section
variable (P : Program) (N : Nat)

def aev (t : List Value) : Operand → Option Value
  | .tmp i => nthR i t
  | .const v => if rigid N v then some v else none
  | .global g => if g < N then some (.pointer (some ⟨g, 0, none⟩)) else none
  | .func f => some (.func (.func f) #[] #[])

def aevs (t : List Value) : List Operand → Option (List Value)
  | [] => some []
  | x :: r => (aev N t x).bind fun v => (aevs t r).bind fun vs => some (v :: vs)

def isAggD : TypeDesc → Bool
  | .struct _ | .array _ _ => true
  | _ => false

/-- The cells of a row from a place on. -/
def rowCells (h : AH) (p : Addr) (n : Nat) : Option (List Value) :=
  match h.get p.block with
  | .cells c _ _ _ => if p.spot.isNone && decide (p.off + n ≤ c.length) then some ((c.drop p.off).take n) else none
  | _ => none

def aLoad (h : AH) (ty : TypeId) (p : Addr) : Option Value :=
  match P.info? ty, P.underlying ty with
  | some i, some d =>
    if isAggD d then (rowCells h p i.size).bind fun cs => some (.agg ⟨cs⟩)
    else (rowCells h p 1).bind fun cs => cs[0]?
  | _, _ => none

def oneCells : List Value → Bool
  | [] => true
  | v :: r => v.oneCell' && oneCells r

def splice (c : List Value) (off : Nat) (vs : List Value) : List Value := c.take off ++ vs ++ c.drop (off + vs.length)

def putCells (h : AH) (p : Addr) (vs : List Value) : Option AH :=
  match h.get p.block with
  | .cells c t fz ex =>
    if p.spot.isNone && decide (N ≤ p.block) && decide (p.off + vs.length ≤ c.length) && oneCells vs && (fz.1 == 1 || decide (fz.2 ≤ p.off)) then
      some (h.set p.block (.cells (splice c p.off vs) t fz ex))
    else none
  | _ => none

def aStore (h : AH) (ty : TypeId) (p : Addr) (v : Value) : Option AH :=
  match P.info? ty with
  | some i => if v.cells.size == i.size then putCells N h p v.cells.toList else none
  | none => none

/-- A new row: at the place ph, if one is held for it; else behind all. -/
def newAt (h : AH) (ph : Option Nat) (o : AObj) : Nat × AH :=
  match ph with
  | some b => (b, h.set b o)
  | none => (h.n, h.push o)

def aNew (h : AH) (ph : Option Nat) (t : TypeId) (cs : List Value) (ex : Bool) : Addr × AH :=
  let r := newAt h ph (.cells cs t (0, 0) ex)
  (⟨r.1, 0, none⟩, r.2)

def zeroOf (t : TypeId) : Option Value :=
  match (P.info? t).bind (·.zero) with
  | some z => if rigid N z then some z else none
  | none => none

def asI : Value → Option Int
  | .int _ n => some n
  | _ => none

/-- A bound of a slice: none stands for 'none'. -/
def bound (x : Option (Option Value)) (dflt most : Nat) : Option Nat :=
  match x with
  | none => some dflt
  | some (some (.int _ n)) => if 0 ≤ n ∧ n ≤ (most : Int) then some n.toNat else none
  | _ => none

/-- x[lo:hi:mx] of a slice. A capacity above capX: unknown, and elements of so many cells; capX: no element, somewhere. -/
def aSlice (size : Nat) (a : Option Addr) (len cap : Nat) (lo hi mx : Option (Option Value)) : Option Value :=
  let lim := if cap < capX then cap else len
  if cap = capX ∨ (a.isNone ∧ capX ≤ cap) then none else
  match (match mx with | none => some cap | some v => bound (some v) 0 lim) with
  | none => none
  | some m =>
    if mx.isSome && hi.isNone then none else
    match bound hi len (if m < capX then m else len) with
    | none => none
    | some e =>
      match bound lo 0 e with
      | none => none
      | some l =>
        if m < capX then some (.slice (if m = l then a else a.map (·.add (l * size))) (e - l) (m - l))
        else if cap = capX + size ∧ a.isSome ∧ mx.isNone then
          if l < len ∨ l = 0 then some (.slice (a.map (·.add (l * size))) (e - l) cap) else some (.slice (some ⟨0, 0, none⟩) 0 capX)
        else none

/-- The cells that append adds: of a slice or a string. -/
def srcCells (h : AH) (size : Nat) : Value → Option (Nat × List Value)
  | .slice (some a) n c => if c ≠ capX then (rowCells h a (n * size)).bind fun cs => some (n, cs) else if n = 0 then some (0, []) else none
  | .slice none n _ => if n = 0 then some (0, []) else none
  | .string s => if size = 1 then some (s.size, s.data.toList.map fun b => .int .u8 (b.toNat : Int)) else none
  | _ => none

def notInt : TypeDesc → Bool
  | .int _ => false
  | _ => true

/-- append(s, cs): n elements more, of so many cells. -/
def aAppend2 (h : AH) (e : TypeId) (size bytes : Nat) (base : Option Addr) (len cap n : Nat) (cs : List Value) : Option (Value × AH) :=
  if cap < capX then
    if len + n ≤ cap then
      match base with
      | none => if len + n = 0 then some (.slice none 0 cap, h) else none
      | some a => (putCells N h (a.add (len * size)) cs).bind fun h' => some (.slice base (len + n) cap, h')
    else
      match (match base with | none => (if len = 0 then some [] else none) | some a => rowCells h a (len * size)) with
      | none => none
      | some old => some (.slice (some ⟨h.n, 0, none⟩) (len + n) (capX + size), h.push (.cells (old ++ cs) e (0, 0) false))
  else if cap = capX + size then
    match base with
    | none => none
    | some a =>
      match h.get a.block with
      | .cells c t fz false =>
        if a.off = 0 ∧ a.spot.isNone ∧ N ≤ a.block ∧ t = e ∧ len * size ≤ c.length ∧ oneCells cs = true ∧ (fz.1 = 1 ∨ fz.2 ≤ len * size) then
          some (.slice (some ⟨h.n, 0, none⟩) (len + n) (capX + size), (h.set a.block .dead).push (.cells (c.take (len * size) ++ cs) e fz false))
        else none
      | _ => none
  else none

def aAppend (h : AH) (argTypes : List TypeId) (s x : Value) : Option (Value × AH) :=
  match argTypes, s with
  | [sT, xT], .slice base len cap =>
    match P.underlying sT, P.underlying xT with
    | some (.slice e), some xd =>
      match P.info? e with
      | none => none
      | some i =>
        if notInt xd = true ∧ 1 ≤ i.size ∧ 1 ≤ i.bytes ∧ (zeroOf P N e).map (·.cells.size) = some i.size then
          match srcCells h i.size x with
          | none => none
          | some (n, cs) => if (len + n) * i.bytes ≤ 17592186044416 then aAppend2 N h e i.size i.bytes base len cap n cs else none
        else none
    | _, _ => none
  | _, _ => none

def bytesOf : List Value → Option (List UInt8)
  | [] => some []
  | .int .u8 n :: r => (bytesOf r).bind fun l => some (UInt8.ofNat n.toNat :: l)
  | _ => none

def plainKey : TypeDesc → Bool
  | .int _ | .string | .bool => true
  | _ => false

def aMapOf (h : AH) : Value → Option (List MapEntry)
  | .map none => some []
  | .map (some r) => match h.get r with
    | .map es _ => some es
    | _ => none
  | _ => none

/-- n cells of zeros. -/
def initCells (n : Nat) (z : Array Value) : Array Value := (Array.range n).map (z[· % z.size]!)

/-- What an operation comes to. -/
inductive AN where
  | val (v : Value) (h : AH)
  | call (f : FuncId) (args : List Value)

def fnOf (f : FuncId) : Bool :=
  match P.funcs[f]? with
  | some fn => fn.body.isSome && fn.name != "runtime.NumGoroutine"
  | none => false

/-- Both sides of '==', one of which is nil and the other is not. -/
def nilNot : TypeDesc → Value → Value → Bool
  | .pointer _, .pointer (some _), .pointer none | .pointer _, .pointer none, .pointer (some _) => true
  | .slice _, .slice (some _) _ _, .slice none _ _ | .slice _, .slice none _ _, .slice (some _) _ _ => true
  | .map _ _, .map (some _), .map none | .map _ _, .map none, .map (some _) => true
  | .func _ _ _, .func _ _ _, .nilFunc | .func _ _ _, .nilFunc, .func _ _ _ => true
  | .interface _, .iface _ _, .nilIface | .interface _, .nilIface, .iface _ _ => true
  | _, _, _ => false

def allRigid (t : List Value) (ops : List Operand) : Bool :=
  match aevs N t ops with
  | some vs => rigids N vs
  | none => false

/-- An operation whose operands name no row of ours, and which asks nothing of the world. -/
def generic (o : Oper) (t : List Value) : Option Value :=
  if allRigid N t o.op.operands.toList then
    match pv P (execOp (fun x => (aev N t x).getD undef) o) with
    | some (.value v) => if rigid N v then some v else none
    | _ => none
  else none

def aParts (t : List Value) : List (Nat × Operand) → Option (List (Nat × Value))
  | [] => some []
  | (i, x) :: r => (aev N t x).bind fun v => (aParts t r).bind fun l => some ((i, v) :: l)

def optVal (t : List Value) : Option Operand → Option (Option Value)
  | none => none
  | some x => some (aev N t x)

/-- x.(T) -/
def aAssert (z v : Value) (asT : TypeId) (ok : Bool) : Option Value :=
  let holds (u : Value) : Option Value := some (if ok then .tuple #[u, .bool true] else u)
  let fails : Option Value := if ok then some (.tuple #[z, .bool false]) else none
  match v with
  | .nilIface => match P.underlying asT with
    | some _ => fails
    | none => none
  | .iface t u => match P.underlying asT with
    | some (.interface want) => match P.info? t with
      | some i => match Instr.missingMethod want i.methods with
        | none => holds v
        | some _ => fails
      | none => none
    | some _ => if t = asT then holds u else fails
    | none => none
  | _ => none

/-- An operation that looks at its operands alone. -/
def opP (o : Oper) (t : List Value) : Option Value :=
  match o.op with
  | .move x | .assign x => aev N t x
  | .pick c a b => match aev N t c with
    | some (.bool true) => aev N t a
    | some (.bool false) => aev N t b
    | _ => none
  | .build ty parts => (aParts N t parts.toList).bind fun ps =>
      (zeroOf P N ty).bind fun _ => pv P (Instr.build ty ⟨ps⟩)
  | .nilCheck x => match aev N t x with
    | some (.pointer (some p)) => some (.pointer (some p))
    | some (.func (.func f) a b) => some (.func (.func f) a b)
    | _ => none
  | .makeInterface ty x => (aev N t x).bind fun v =>
      match P.underlying ty with
      | some (.interface _) => none
      | some _ => some (.iface ty v)
      | none => none
  | .makeFunc fn first cap => (aevs N t first.toList).bind fun fs => (aevs N t cap.toList).bind fun cs => some (.func fn ⟨fs⟩ ⟨cs⟩)
  | .fieldAddr s x f => match aev N t x, P.underlying s with
    | some (.pointer (some p)), some (.struct fields) => match fields[f]? with
      | some fd => match P.info? fd.type with
        | some i => if i.size ≠ 0 ∧ p.spot.isNone then some (.pointer (some (p.add fd.offset))) else none
        | none => none
      | none => none
    | _, _ => none
  | .indexAddr ty x ix => match aev N t x, aev N t ix, P.underlying ty with
    | some (.slice (some p) len c), some (.int _ i), some (.slice e) => match P.info? e with
      | some ti => if 0 ≤ i ∧ i < (len : Int) ∧ p.spot.isNone then some (.pointer (some (p.add (i.toNat * ti.size)))) else none
      | none => none
    | some (.pointer (some p)), some (.int _ i), some (.array len e) => match P.info? e with
      | some ti => if 0 ≤ i ∧ i < (len : Int) ∧ p.spot.isNone then some (.pointer (some (p.add (i.toNat * ti.size)))) else none
      | none => none
    | _, _, _ => none
  | .slice ty x lo hi mx => match aev N t x, P.underlying ty with
    | some (.slice a len cap), some (.slice e) => match P.info? e with
      | some ti => aSlice ti.size a len cap (optVal N t lo) (optVal N t hi) (optVal N t mx)
      | none => none
    | _, _ => generic P N o t
  | .extract x i => match aev N t x with
    | some (.tuple vs) => vs[i]?
    | _ => none
  | .typeAssert x xT asT ok => (aev N t x).bind fun v => (zeroOf P N asT).bind fun z => aAssert P z v asT ok
  | .binOp op ty x y _ =>
    if allRigid N t o.op.operands.toList then generic P N o t else
    match aev N t x, aev N t y, P.underlying ty with
    | some a, some b, some d => if nilNot d a b then
        match op with
        | .eql => some (.bool false)
        | .neq => some (.bool true)
        | _ => none
      else none
    | _, _, _ => none
  | .unOp .. | .convert .. | .index .. | .field .. => generic P N o t
  | .call { callee := .builtin .len, args := args, argTypes := tys } => match args.toList, tys.toList with
    | [x], ty :: _ => match aev N t x, P.underlying ty with
      | some (.slice _ n _), some (.slice _) => some (.int .i64 n)
      | some (.map (some _)), _ => none
      | _, _ => generic P N o t
    | _, _ => none
  | .call { callee := .builtin .min, .. } | .call { callee := .builtin .max, .. } => generic P N o t
  | _ => none

/-- An operation that reads memory. -/
def opR (o : Oper) (t : List Value) (h : AH) : Option Value :=
  match o.op with
  | .load ty x => match aev N t x with
    | some (.pointer (some p)) => aLoad P h ty p
    | _ => none
  | .lookup ty m k ok => match aev N t m, aev N t k, P.underlying ty with
    | some mv, some kv, some (.map kt et) => match aMapOf h mv, P.underlying kt, zeroOf P N et with
      | some es, some kd, some z =>
        if plainKey kd && rigid N kv then
          match Instr.findNow kd kv es 0 with
          | some (some (_, v)) => some (if ok then .tuple #[v, .bool true] else v)
          | some none => some (if ok then .tuple #[z, .bool false] else z)
          | none => none
        else none
      | _, _, _ => none
    | _, _, _ => none
  | .convert src dst x => match P.underlying src, P.underlying dst, aev N t x with
    | some (.slice e), some .string, some (.slice (some a) len c) => match P.underlying e with
      | some (.int .u8) => if c ≠ capX then (rowCells h a len).bind fun cs => (bytesOf cs).bind fun l => some (.string ⟨⟨l⟩⟩) else none
      | _ => none
    | _, _, _ => none
  | .call { callee := .builtin .len, args := args, argTypes := tys } => match args.toList, tys.toList with
    | [x], ty :: _ => match aev N t x, P.underlying ty with
      | some (.map (some r)), some (.map _ _) => match h.get r with
        | .map es _ => some (.int .i64 es.length)
        | _ => none
      | _, _ => none
    | _, _ => none
  | _ => none

/-- An operation that writes memory, or calls. -/
def opW (o : Oper) (ph : Option Nat) (t : List Value) (h : AH) : Option AN :=
  match o.op with
  | .alloc e => (zeroOf P N e).bind fun z =>
      let r := aNew h ph e z.cells.toList true
      some (.val (.pointer (some r.1)) r.2)
  | .box e x => (aev N t x).bind fun v =>
      let r := aNew h ph e v.cells.toList true
      some (.val (.pointer (some r.1)) r.2)
  | .buildSlice ty len parts => (aParts N t parts.toList).bind fun ps =>
      match P.underlying ty with
      | some (.slice e) =>
        match P.info? e, zeroOf P N e with
        | some i, some z =>
          if len * i.size ≤ 16777216 ∧ len < capX ∧ z.cells.size = i.size then
            match Instr.fill (fun j => some (j * i.size, i.size)) (initCells (len * i.size) z.cells) ps with
            | some cs =>
              let r := aNew h ph e cs.toList true
              some (.val (.slice (some r.1) len len) r.2)
            | none => none
          else none
        | _, _ => none
      | _ => none
  | .store ty x y => match aev N t x, aev N t y with
    | some (.pointer (some p)), some v => (aStore P N h ty p v).bind fun h' => some (.val undef h')
    | _, _ => none
  | .makeMap _ none =>
      let r := newAt h ph (.map [] 0)
      some (.val (.map (some r.1)) r.2)
  | .makeSlice ty l c => match aev N t l, aev N t c, P.underlying ty with
    | some (.int .i64 a), some (.int .i64 b), some (.slice e) =>
      match P.info? e, zeroOf P N e with
      | some i, some z =>
        if 0 ≤ a ∧ a ≤ b ∧ b.toNat * i.bytes ≤ 17592186044416 ∧ b ≤ 17592186044416 ∧ z.cells.size = i.size then
          let r := aNew h ph e (initCells (b.toNat * i.size) z.cells).toList true
          some (.val (.slice (some r.1) a.toNat b.toNat) r.2)
        else none
      | _, _ => none
    | _, _, _ => none
  | .convert src dst x => match P.underlying src, P.underlying dst, aev N t x with
    | some .string, some (.slice e), some (.string s) => match P.underlying e with
      | some (.int .u8) =>
        if s.size ≤ 17592186044416 ∧ (P.info? e).map (·.size) = some 1 then
          let b := h.n
          some (.val (.slice (some ⟨h.n, 0, none⟩) s.size (capX + 1)) (h.push (.cells (s.data.toList.map fun b => .int .u8 (b.toNat : Int)) e (1, 0) false)))
        else none
      | _ => none
    | _, _, _ => none
  | .mapUpdate ty m k v => match aev N t m, aev N t k, aev N t v, P.underlying ty with
    | some (.map (some r)), some kv, some vv, some (.map kt _) => match h.get r, P.underlying kt with
      | .map es ck, some kd =>
        if plainKey kd && rigid N kv && decide (N ≤ r) then
          match Instr.findNow kd kv es 0 with
          | some (some (i, _)) => match es[i]? with
            | some e => if Instr.sameBits 10000 e.key kv then some (.val undef (h.set r (.map (es.set i { e with key := kv, val := vv }) ck))) else none
            | none => none
          | some none => some (.val undef (h.set r (.map (es ++ [{ key := kv, val := vv, born := ck }]) (ck + 1))))
          | none => none
        else none
      | _, _ => none
    | _, _, _, _ => none
  | .range ty x => match aev N t x, P.underlying ty with
    | some (.string s), some .string =>
      let r := newAt h ph (.strIter s 0)
      some (.val (.pointer (some ⟨r.1, 0, none⟩)) r.2)
    | some (.map none), some (.map _ _) =>
      let r := newAt h ph (.mapIter none 0 [] 0)
      some (.val (.pointer (some ⟨r.1, 0, none⟩)) r.2)
    | some (.map (some m)), some (.map _ _) => match h.get m with
      | .map _ ck =>
        let r := newAt h ph (.mapIter (some m) ck [] ck)
        some (.val (.pointer (some ⟨r.1, 0, none⟩)) r.2)
      | _ => none
    | _, _ => none
  | .next x isStr => match aev N t x with
    | some (.pointer (some p)) =>
      if p.off = 0 ∧ p.spot.isNone ∧ N ≤ p.block then
        match h.get p.block, isStr with
        | .strIter s pos, true =>
          if pos < s.size then
            let d := Utf8.decode s pos
            some (.val (.tuple #[.bool true, goInt pos, .int .i32 d.1]) (h.set p.block (.strIter s (pos + d.2))))
          else some (.val (.tuple #[.bool false]) h)
        | .mapIter none _ _ _, false => some (.val (.tuple #[.bool false]) h)
        | .mapIter (some m) since seen last, false => match h.get m with
          | .map [] ck => some (.val (.tuple #[.bool false]) h)
          | _ => none
        | _, _ => none
      else none
    | _ => none
  | .call c =>
    match c.callee with
    | .builtin .append => match c.args.toList with
      | [x, y] => match aev N t x, aev N t y with
        | some s, some v => (aAppend P N h c.argTypes.toList s v).bind fun r => some (.val r.1 r.2)
        | _, _ => none
      | _ => none
    | .builtin .copy => match c.args.toList, c.argTypes.toList with
      | [x, y], ty :: _ => match aev N t x, aev N t y, P.underlying ty with
        | some (.slice base dl dc), some src, some (.slice e) => match P.info? e with
          | some i =>
            if dc ≠ capX then
              match srcCells h i.size src with
              | some (n, cs) =>
                let k := min n dl
                match base with
                | none => if dl = 0 then some (.val (.int .i64 0) h) else none
                | some a => (putCells N h a (cs.take (k * i.size))).bind fun h' => some (.val (.int .i64 k) h')
              | none => none
            else none
          | none => none
        | _, _, _ => none
      | _, _ => none
    | .builtin .delete => match c.args.toList, c.argTypes.toList with
      | [m, k], ty :: _ => match aev N t m, aev N t k, P.underlying ty with
        | some (.map (some r)), some kv, some (.map kt _) => match h.get r, P.underlying kt with
          | .map es ck, some kd =>
            if plainKey kd && rigid N kv && decide (N ≤ r) then
              match Instr.findNow kd kv es 0 with
              | some (some (i, _)) => some (.val (.tuple #[]) (h.set r (.map (es.eraseIdx i) ck)))
              | some none => some (.val (.tuple #[]) h)
              | none => none
            else none
          | _, _ => none
        | _, _, _ => none
      | _, _ => none
    | .builtin _ => none
    | .value f => match aev N t f with
      | some (.func (.func g) first cap) =>
        if fnOf P g then (aevs N t c.args.toList).bind fun as => some (.call g (first.toList ++ as ++ cap.toList))
        else (generic P N o t).bind fun v => some (.val v h)
      | _ => none
    | .invoke _ _ => none
  | _ => none

/-! The same three, each make of operation apart: less to unfold. -/
def opP_1 (o : Oper) (t : List Value) (c : Operand) (a : Operand) (b : Operand) : Option Value :=
  match aev N t c with
    | some (.bool true) => aev N t a
    | some (.bool false) => aev N t b
    | _ => none

def opP_2 (o : Oper) (t : List Value) (ty : TypeId) (parts : Array (Nat × Operand)) : Option Value :=
  (aParts N t parts.toList).bind fun ps =>
      (zeroOf P N ty).bind fun _ => pv P (Instr.build ty ⟨ps⟩)

def opP_3 (o : Oper) (t : List Value) (x : Operand) : Option Value :=
  match aev N t x with
    | some (.pointer (some p)) => some (.pointer (some p))
    | some (.func (.func f) a b) => some (.func (.func f) a b)
    | _ => none

def opP_4 (o : Oper) (t : List Value) (ty : TypeId) (x : Operand) : Option Value :=
  (aev N t x).bind fun v =>
      match P.underlying ty with
      | some (.interface _) => none
      | some _ => some (.iface ty v)
      | none => none

def opP_5 (o : Oper) (t : List Value) (fn : Fn) (first : Array Operand) (cap : Array Operand) : Option Value :=
  (aevs N t first.toList).bind fun fs => (aevs N t cap.toList).bind fun cs => some (.func fn ⟨fs⟩ ⟨cs⟩)

def opP_6 (o : Oper) (t : List Value) (s : TypeId) (x : Operand) (f : Nat) : Option Value :=
  match aev N t x, P.underlying s with
    | some (.pointer (some p)), some (.struct fields) => match fields[f]? with
      | some fd => match P.info? fd.type with
        | some i => if i.size ≠ 0 ∧ p.spot.isNone then some (.pointer (some (p.add fd.offset))) else none
        | none => none
      | none => none
    | _, _ => none

def opP_7 (o : Oper) (t : List Value) (ty : TypeId) (x : Operand) (ix : Operand) : Option Value :=
  match aev N t x, aev N t ix, P.underlying ty with
    | some (.slice (some p) len c), some (.int _ i), some (.slice e) => match P.info? e with
      | some ti => if 0 ≤ i ∧ i < (len : Int) ∧ p.spot.isNone then some (.pointer (some (p.add (i.toNat * ti.size)))) else none
      | none => none
    | some (.pointer (some p)), some (.int _ i), some (.array len e) => match P.info? e with
      | some ti => if 0 ≤ i ∧ i < (len : Int) ∧ p.spot.isNone then some (.pointer (some (p.add (i.toNat * ti.size)))) else none
      | none => none
    | _, _, _ => none

def opP_8 (o : Oper) (t : List Value) (ty : TypeId) (x : Operand) (lo : Option Operand) (hi : Option Operand) (mx : Option Operand) : Option Value :=
  match aev N t x, P.underlying ty with
    | some (.slice a len cap), some (.slice e) => match P.info? e with
      | some ti => aSlice ti.size a len cap (optVal N t lo) (optVal N t hi) (optVal N t mx)
      | none => none
    | _, _ => generic P N o t

def opP_9 (o : Oper) (t : List Value) (x : Operand) (i : Nat) : Option Value :=
  match aev N t x with
    | some (.tuple vs) => vs[i]?
    | _ => none

def opP_10 (o : Oper) (t : List Value) (x : Operand) (xT : TypeId) (asT : TypeId) (ok : Bool) : Option Value :=
  (aev N t x).bind fun v => (zeroOf P N asT).bind fun z => aAssert P z v asT ok

def opP_11 (o : Oper) (t : List Value) (op : BinOp) (ty : TypeId) (x : Operand) (y : Operand) : Option Value :=
 
    if allRigid N t o.op.operands.toList then generic P N o t else
    match aev N t x, aev N t y, P.underlying ty with
    | some a, some b, some d => if nilNot d a b then
        match op with
        | .eql => some (.bool false)
        | .neq => some (.bool true)
        | _ => none
      else none
    | _, _, _ => none

def opP_12 (o : Oper) (t : List Value) (args : Array Operand) (tys : Array TypeId) : Option Value :=
  match args.toList, tys.toList with
    | [x], ty :: _ => match aev N t x, P.underlying ty with
      | some (.slice _ n _), some (.slice _) => some (.int .i64 n)
      | some (.map (some _)), _ => none
      | _, _ => generic P N o t
    | _, _ => none

def opPF (o : Oper) (t : List Value) : Option Value :=
  match o.op with
  | .move x | .assign x => aev N t x
  | .pick c a b => opP_1 N o t c a b
  | .build ty parts => opP_2 P N o t ty parts
  | .nilCheck x => opP_3 N o t x
  | .makeInterface ty x => opP_4 P N o t ty x
  | .makeFunc fn first cap => opP_5 N o t fn first cap
  | .fieldAddr s x f => opP_6 P N o t s x f
  | .indexAddr ty x ix => opP_7 P N o t ty x ix
  | .slice ty x lo hi mx => opP_8 P N o t ty x lo hi mx
  | .extract x i => opP_9 N o t x i
  | .typeAssert x xT asT ok => opP_10 P N o t x xT asT ok
  | .binOp op ty x y _ => opP_11 P N o t op ty x y
  | .unOp .. | .convert .. | .index .. | .field .. => generic P N o t
  | .call { callee := .builtin .len, args := args, argTypes := tys } => opP_12 P N o t args tys
  | .call { callee := .builtin .min, .. } | .call { callee := .builtin .max, .. } => generic P N o t
  | _ => none

def opR_1 (o : Oper) (t : List Value) (h : AH) (ty : TypeId) (x : Operand) : Option Value :=
  match aev N t x with
    | some (.pointer (some p)) => aLoad P h ty p
    | _ => none

def opR_2 (o : Oper) (t : List Value) (h : AH) (ty : TypeId) (m : Operand) (k : Operand) (ok : Bool) : Option Value :=
  match aev N t m, aev N t k, P.underlying ty with
    | some mv, some kv, some (.map kt et) => match aMapOf h mv, P.underlying kt, zeroOf P N et with
      | some es, some kd, some z =>
        if plainKey kd && rigid N kv then
          match Instr.findNow kd kv es 0 with
          | some (some (_, v)) => some (if ok then .tuple #[v, .bool true] else v)
          | some none => some (if ok then .tuple #[z, .bool false] else z)
          | none => none
        else none
      | _, _, _ => none
    | _, _, _ => none

def opR_3 (o : Oper) (t : List Value) (h : AH) (src : TypeId) (dst : TypeId) (x : Operand) : Option Value :=
  match P.underlying src, P.underlying dst, aev N t x with
    | some (.slice e), some .string, some (.slice (some a) len c) => match P.underlying e with
      | some (.int .u8) => if c ≠ capX then (rowCells h a len).bind fun cs => (bytesOf cs).bind fun l => some (.string ⟨⟨l⟩⟩) else none
      | _ => none
    | _, _, _ => none

def opR_4 (o : Oper) (t : List Value) (h : AH) (args : Array Operand) (tys : Array TypeId) : Option Value :=
  match args.toList, tys.toList with
    | [x], ty :: _ => match aev N t x, P.underlying ty with
      | some (.map (some r)), some (.map _ _) => match h.get r with
        | .map es _ => some (.int .i64 es.length)
        | _ => none
      | _, _ => none
    | _, _ => none

def opRF (o : Oper) (t : List Value) (h : AH) : Option Value :=
  match o.op with
  | .load ty x => opR_1 P N o t h ty x
  | .lookup ty m k ok => opR_2 P N o t h ty m k ok
  | .convert src dst x => opR_3 P N o t h src dst x
  | .call { callee := .builtin .len, args := args, argTypes := tys } => opR_4 P N o t h args tys
  | _ => none

def opW_1 (o : Oper) (ph : Option Nat) (t : List Value) (h : AH) (e : TypeId) : Option AN :=
  (zeroOf P N e).bind fun z =>
      let r := aNew h ph e z.cells.toList true
      some (.val (.pointer (some r.1)) r.2)

def opW_2 (o : Oper) (ph : Option Nat) (t : List Value) (h : AH) (e : TypeId) (x : Operand) : Option AN :=
  (aev N t x).bind fun v =>
      let r := aNew h ph e v.cells.toList true
      some (.val (.pointer (some r.1)) r.2)

def opW_3 (o : Oper) (ph : Option Nat) (t : List Value) (h : AH) (ty : TypeId) (len : Nat) (parts : Array (Nat × Operand)) : Option AN :=
  (aParts N t parts.toList).bind fun ps =>
      match P.underlying ty with
      | some (.slice e) =>
        match P.info? e, zeroOf P N e with
        | some i, some z =>
          if len * i.size ≤ 16777216 ∧ len < capX ∧ z.cells.size = i.size then
            match Instr.fill (fun j => some (j * i.size, i.size)) (initCells (len * i.size) z.cells) ps with
            | some cs =>
              let r := aNew h ph e cs.toList true
              some (.val (.slice (some r.1) len len) r.2)
            | none => none
          else none
        | _, _ => none
      | _ => none

def opW_4 (o : Oper) (ph : Option Nat) (t : List Value) (h : AH) (ty : TypeId) (x : Operand) (y : Operand) : Option AN :=
  match aev N t x, aev N t y with
    | some (.pointer (some p)), some v => (aStore P N h ty p v).bind fun h' => some (.val undef h')
    | _, _ => none

def opW_5 (o : Oper) (ph : Option Nat) (t : List Value) (h : AH) (ty : TypeId) (l : Operand) (c : Operand) : Option AN :=
  match aev N t l, aev N t c, P.underlying ty with
    | some (.int .i64 a), some (.int .i64 b), some (.slice e) =>
      match P.info? e, zeroOf P N e with
      | some i, some z =>
        if 0 ≤ a ∧ a ≤ b ∧ b.toNat * i.bytes ≤ 17592186044416 ∧ b ≤ 17592186044416 ∧ z.cells.size = i.size then
          let r := aNew h ph e (initCells (b.toNat * i.size) z.cells).toList true
          some (.val (.slice (some r.1) a.toNat b.toNat) r.2)
        else none
      | _, _ => none
    | _, _, _ => none

def opW_6 (o : Oper) (ph : Option Nat) (t : List Value) (h : AH) (src : TypeId) (dst : TypeId) (x : Operand) : Option AN :=
  match P.underlying src, P.underlying dst, aev N t x with
    | some .string, some (.slice e), some (.string s) => match P.underlying e with
      | some (.int .u8) =>
        if s.size ≤ 17592186044416 ∧ (P.info? e).map (·.size) = some 1 then
          let b := h.n
          some (.val (.slice (some ⟨h.n, 0, none⟩) s.size (capX + 1)) (h.push (.cells (s.data.toList.map fun b => .int .u8 (b.toNat : Int)) e (1, 0) false)))
        else none
      | _ => none
    | _, _, _ => none

def opW_7 (o : Oper) (ph : Option Nat) (t : List Value) (h : AH) (ty : TypeId) (m : Operand) (k : Operand) (v : Operand) : Option AN :=
  match aev N t m, aev N t k, aev N t v, P.underlying ty with
    | some (.map (some r)), some kv, some vv, some (.map kt _) => match h.get r, P.underlying kt with
      | .map es ck, some kd =>
        if plainKey kd && rigid N kv && decide (N ≤ r) then
          match Instr.findNow kd kv es 0 with
          | some (some (i, _)) => match es[i]? with
            | some e => if Instr.sameBits 10000 e.key kv then some (.val undef (h.set r (.map (es.set i { e with key := kv, val := vv }) ck))) else none
            | none => none
          | some none => some (.val undef (h.set r (.map (es ++ [{ key := kv, val := vv, born := ck }]) (ck + 1))))
          | none => none
        else none
      | _, _ => none
    | _, _, _, _ => none

def opW_8 (o : Oper) (ph : Option Nat) (t : List Value) (h : AH) (ty : TypeId) (x : Operand) : Option AN :=
  match aev N t x, P.underlying ty with
    | some (.string s), some .string =>
      let r := newAt h ph (.strIter s 0)
      some (.val (.pointer (some ⟨r.1, 0, none⟩)) r.2)
    | some (.map none), some (.map _ _) =>
      let r := newAt h ph (.mapIter none 0 [] 0)
      some (.val (.pointer (some ⟨r.1, 0, none⟩)) r.2)
    | some (.map (some m)), some (.map _ _) => match h.get m with
      | .map _ ck =>
        let r := newAt h ph (.mapIter (some m) ck [] ck)
        some (.val (.pointer (some ⟨r.1, 0, none⟩)) r.2)
      | _ => none
    | _, _ => none

def opW_9 (o : Oper) (ph : Option Nat) (t : List Value) (h : AH) (x : Operand) (isStr : Bool) : Option AN :=
  match aev N t x with
    | some (.pointer (some p)) =>
      if p.off = 0 ∧ p.spot.isNone ∧ N ≤ p.block then
        match h.get p.block, isStr with
        | .strIter s pos, true =>
          if pos < s.size then
            let d := Utf8.decode s pos
            some (.val (.tuple #[.bool true, goInt pos, .int .i32 d.1]) (h.set p.block (.strIter s (pos + d.2))))
          else some (.val (.tuple #[.bool false]) h)
        | .mapIter none _ _ _, false => some (.val (.tuple #[.bool false]) h)
        | .mapIter (some m) since seen last, false => match h.get m with
          | .map [] ck => some (.val (.tuple #[.bool false]) h)
          | _ => none
        | _, _ => none
      else none
    | _ => none

def opW_10 (o : Oper) (ph : Option Nat) (t : List Value) (h : AH) (c : Call) : Option AN :=
  match c.args.toList with
      | [x, y] => match aev N t x, aev N t y with
        | some s, some v => (aAppend P N h c.argTypes.toList s v).bind fun r => some (.val r.1 r.2)
        | _, _ => none
      | _ => none

def opW_11 (o : Oper) (ph : Option Nat) (t : List Value) (h : AH) (c : Call) : Option AN :=
  match c.args.toList, c.argTypes.toList with
      | [x, y], ty :: _ => match aev N t x, aev N t y, P.underlying ty with
        | some (.slice base dl dc), some src, some (.slice e) => match P.info? e with
          | some i =>
            if dc ≠ capX then
              match srcCells h i.size src with
              | some (n, cs) =>
                let k := min n dl
                match base with
                | none => if dl = 0 then some (.val (.int .i64 0) h) else none
                | some a => (putCells N h a (cs.take (k * i.size))).bind fun h' => some (.val (.int .i64 k) h')
              | none => none
            else none
          | none => none
        | _, _, _ => none
      | _, _ => none

def opW_12 (o : Oper) (ph : Option Nat) (t : List Value) (h : AH) (c : Call) : Option AN :=
  match c.args.toList, c.argTypes.toList with
      | [m, k], ty :: _ => match aev N t m, aev N t k, P.underlying ty with
        | some (.map (some r)), some kv, some (.map kt _) => match h.get r, P.underlying kt with
          | .map es ck, some kd =>
            if plainKey kd && rigid N kv && decide (N ≤ r) then
              match Instr.findNow kd kv es 0 with
              | some (some (i, _)) => some (.val (.tuple #[]) (h.set r (.map (es.eraseIdx i) ck)))
              | some none => some (.val (.tuple #[]) h)
              | none => none
            else none
          | _, _ => none
        | _, _, _ => none
      | _, _ => none

def opW_13 (o : Oper) (ph : Option Nat) (t : List Value) (h : AH) (c : Call) (f : Operand) : Option AN :=
  match aev N t f with
      | some (.func (.func g) first cap) =>
        if fnOf P g then (aevs N t c.args.toList).bind fun as => some (.call g (first.toList ++ as ++ cap.toList))
        else (generic P N o t).bind fun v => some (.val v h)
      | _ => none

def opWF (o : Oper) (ph : Option Nat) (t : List Value) (h : AH) : Option AN :=
  match o.op with
  | .alloc e => opW_1 P N o ph t h e
  | .box e x => opW_2 N o ph t h e x
  | .buildSlice ty len parts => opW_3 P N o ph t h ty len parts
  | .store ty x y => opW_4 P N o ph t h ty x y
  | .makeMap _ none =>
      let r := newAt h ph (.map [] 0)
      some (.val (.map (some r.1)) r.2)
  | .makeSlice ty l c => opW_5 P N o ph t h ty l c
  | .convert src dst x => opW_6 P N o ph t h src dst x
  | .mapUpdate ty m k v => opW_7 P N o ph t h ty m k v
  | .range ty x => opW_8 P N o ph t h ty x
  | .next x isStr => opW_9 N o ph t h x isStr
  | .call c =>
    match c.callee with
    | .builtin .append => opW_10 P N o ph t h c
    | .builtin .copy => opW_11 P N o ph t h c
    | .builtin .delete => opW_12 P N o ph t h c
    | .builtin _ => none
    | .value f => opW_13 P N o ph t h c f
    | .invoke _ _ => none
  | _ => none

theorem opPF_eq (o : Oper) (t : List Value) : opPF P N o t = opP P N o t := by
  obtain ⟨dst, op, ty, pos, after, guard⟩ := o
  cases op <;> rfl
theorem opRF_eq (o : Oper) (t : List Value) (h : AH) : opRF P N o t h = opR P N o t h := by
  obtain ⟨dst, op, ty, pos, after, guard⟩ := o
  cases op <;> rfl
theorem opWF_eq (o : Oper) (ph : Option Nat) (t : List Value) (h : AH) : opWF P N o ph t h = opW P N o ph t h := by
  obtain ⟨dst, op, ty, pos, after, guard⟩ := o
  cases op <;> rfl

def opA (o : Oper) (ph : Option Nat) (t : List Value) (h : AH) : Option AN :=
  match opPF P N o t with
  | some v => some (.val v h)
  | none => match opRF P N o t h with
    | some v => some (.val v h)
    | none => opWF P N o ph t h
theorem opA_eq (o : Oper) (ph : Option Nat) (t : List Value) (h : AH) : opA P N o ph t h = match opP P N o t with
  | some v => some (.val v h)
  | none => match opR P N o t h with
    | some v => some (.val v h)
    | none => opW P N o ph t h := by
  unfold opA
  rw [opPF_eq, opRF_eq, opWF_eq]

/-- Is an operation's guard met? -/
def aWanted (ops : Array Oper) (o : Oper) (t : List Value) : Option Bool :=
  match o.guard with
  | none => some true
  | some (j, want) => match ((ops[j]?).bind (·.dst)).bind (nthR · t) with
    | some (.bool b) => some (b == want)
    | some (.tuple ⟨[]⟩) => some false
    | _ => none

def putT (t : List Value) (dst : Option Tmp) (v : Value) : List Value :=
  match dst with
  | some d => setR v d t
  | none => t

/-- One operation. -/
def stepA (call : FuncId → List Value → AH → Option (Value × AH)) (ops : Array Oper) (o : Oper) (ph : Option Nat) (t : List Value) (h : AH) : Option (List Value × AH) :=
  match aWanted ops o t with
  | some true => match opA P N o ph t h with
    | some (.val v h') => some (putT t o.dst v, h')
    | some (.call f args) => match call f args h with
      | some (v, h') => some (putT t o.dst v, h')
      | none => none
    | none => none
  | some false => some (putT t o.dst undef, h)
  | none => none

/-- The operations of a region, in the order of the text. -/
def lineA (call : FuncId → List Value → AH → Option (Value × AH)) (ops : Array Oper) : List Oper → List Value → AH → Option (List Value × AH)
  | [], t, h => some (t, h)
  | o :: r, t, h => match stepA P N call ops o none t h with
    | some (t', h') => lineA call ops r t' h'
    | none => none

end

/-! ### A region whose order is open -/

/-- Number i and all that waits for it. -/
def descOf (bf : Array Nat) (n i : Nat) : List Bool := (List.range n).map fun j => j == i || (bf.getD j 0).testBit i

/-- Each of them but i has one of them directly before it; none is listed. -/
def descOk (ops : Array Oper) (listed : Array Bool) (i : Nat) (D : List Bool) : Bool :=
  (List.range ops.size).all fun j => !(D.getD j false) || (!(listed.getD j true) && (j == i || match ops[j]? with
    | some o => o.after.any fun e => Region.binds .any e && D.getD e.on false
    | none => false))

section
variable (P : Program) (N : Nat) (call : FuncId → List Value → AH → Option (Value × AH))

/-- What number i would yield now, if it needs no memory (or is not wanted). -/
def nowP (ops : Array Oper) (i : Nat) (t : List Value) : Option Value :=
  match ops[i]? with
  | none => none
  | some o => match aWanted ops o t with
    | some true => opPF P N o t
    | some false => some undef
    | none => none

def nowR (ops : Array Oper) (i : Nat) (t : List Value) (h : AH) : Option Value :=
  match ops[i]? with
  | none => none
  | some o => match aWanted ops o t with
    | some true => opRF P N o t h
    | _ => none

mutual
def veq : Value → Value → Bool
  | .bool a, .bool b => a == b
  | .int k a, .int j b => k == j && a == b
  | .float k a, .float j b => k == j && a == b
  | .string a, .string b => a.data.toList == b.data.toList
  | .pointer a, .pointer b => a == b
  | .slice a l c, .slice b m d => a == b && l == m && c == d
  | .map a, .map b => a == b
  | .nilFunc, .nilFunc | .nilIface, .nilIface => true
  | .func f ⟨a⟩ ⟨b⟩, .func g ⟨c⟩ ⟨d⟩ => f == g && veqs a c && veqs b d
  | .iface t v, .iface u w => t == u && veq v w
  | .agg ⟨a⟩, .agg ⟨b⟩ => veqs a b
  | .tuple ⟨a⟩, .tuple ⟨b⟩ => veqs a b
  | _, _ => false
def veqs : List Value → List Value → Bool
  | [], [] => true
  | a :: r, b :: s => veq a b && veqs r s
  | _, _ => false
end

mutual
/-- A value in which no slice is 'empty, somewhere'. -/
def noE : Value → Bool
  | .slice _ _ c => c != capX
  | .func _ ⟨a⟩ ⟨b⟩ => noEs a && noEs b
  | .iface _ v => noE v
  | .agg ⟨a⟩ => noEs a
  | .tuple ⟨a⟩ => noEs a
  | _ => true
def noEs : List Value → Bool
  | [] => true
  | v :: r => noE v && noEs r
end

def meqs : List MapEntry → List MapEntry → Bool
  | [], [] => true
  | a :: r, b :: s => veq a.key b.key && veq a.val b.val && a.born == b.born && meqs r s
  | _, _ => false

def oeq : AObj → AObj → Bool
  | .cells a t f x, .cells b u g y => veqs a b && t == u && f == g && x == y
  | .map a c, .map b d => meqs a b && c == d
  | .mapIter a b c d, .mapIter e f g i => a == e && b == f && c == g && d == i
  | .strIter a b, .strIter c d => a.data.toList == c.data.toList && b == d
  | .dead, .dead => true
  | _, _ => false

def oeqs : List AObj → List AObj → Bool
  | [], [] => true
  | a :: r, b :: s => oeq a b && oeqs r s
  | _, _ => false

def steq (a b : List Value × AH) : Bool := veqs a.1 b.1 && a.2.n == b.2.n && oeqs a.2.l b.2.l

/-- Number j stores into another row than number i loads from. -/
def farStore (ops : Array Oper) (j i : Nat) (t ti : List Value) : Bool :=
  match ops[j]?, ops[i]? with
  | some oj, some oi => match oj.op, oi.op with
    | .store _ x _, .load _ y => match aev N t x, aev N ti y with
      | some (.pointer (some p)), some (.pointer (some q)) => p.block != q.block
      | _, _ => false
    | _, _ => false
  | _, _ => false

/-- Number j is run and changes memory: what was read early and may yet be unread must read as it did. -/
def stillRead (ops : Array Oper) (bf : Array Nat) (j : Nat) (tj : List Value) (h : AH) : List (Nat × Value × List Value) → Option (List (Nat × Value × List Value))
  | [] => some []
  | (i, v, t) :: r =>
    let D := descOf bf ops.size i
    if D.getD j false then stillRead ops bf j tj h r
    else if farStore N ops j i tj t then (stillRead ops bf j tj h r).bind fun l => some ((i, v, t) :: l)
    else match nowR P N ops i t h with
      | some v' => if veq v v' then (stillRead ops bf j tj h r).bind fun l => some ((i, v, t) :: l) else none
      | none => none

/-- All orders that the edges let, from what is listed on: what they come to, if that is one. E: what was read early. -/
def anyA (ops : Array Oper) (bf : Array Nat) (base : Nat) : Nat → Array Bool → List (Nat × Value × List Value) → List Value → AH → Option (List Value × AH)
  | 0, listed, _, t, h => if (Region.ready .any ops listed).isEmpty then some (t, h) else none
  | k + 1, listed, E, t, h =>
    match Region.ready .any ops listed with
    | [] => some (t, h)
    | r :: rs =>
      match (r :: rs).find? fun i => (nowP P N ops i t).isSome && Region.free .any ops listed i with
      | some i => match nowP P N ops i t with
        | some v => anyA ops bf base k (listed.setIfInBounds i true) E (putT t ((ops[i]?).bind (·.dst)) v) h
        | none => none
      | none =>
        match (r :: rs).find? fun i => (match nowR P N ops i t h with | some v => noE v | none => false) && Region.free .any ops listed i && descOk ops listed i (descOf bf ops.size i) with
        | some i => match nowR P N ops i t h with
          | some v => anyA ops bf base k (listed.setIfInBounds i true) ((i, v, t) :: E) (putT t ((ops[i]?).bind (·.dst)) v) h
          | none => none
        | none =>
          let go (i : Nat) : Option (List Value × AH) := match ops[i]? with
            | none => none
            | some o => match stepA P N call ops o (some (base + i)) t h with
              | some (t', h') => match stillRead P N ops bf i t h' E with
                | some E' => anyA ops bf base k (listed.setIfInBounds i true) E' t' h'
                | none => none
              | none => none
          match go r with
          | none => none
          | some s => if rs.all fun i => match go i with | some s' => steq s s' | none => false then some s else none

/-- A code: how it leaves, and what it leaves. m: how many rounds a loop may go. -/
def exec (m : Nat) : Code → List Value → AH → Option (Exit × List Value × AH)
  | .skip, t, h => some (.normal, t, h)
  | .label _, t, h => some (.normal, t, h)
  | .region _ ops false, t, h => (lineA P N call ops ops.toList t h).bind fun r => some (.normal, r.1, r.2)
  | .region _ ops true, t, h =>
    if Region.noSelect ops then
      (anyA P N call ops (Region.before ops) h.n ops.size (Array.replicate ops.size false) [] t (h.room ops.size)).bind fun r => some (.normal, r.1, r.2)
    else none
  | .seq a b, t, h => match exec m a t h with
    | some (.normal, t', h') => exec m b t' h'
    | r => r
  | .cond c a b, t, h => match aev N t c with
    | some (.bool true) => exec m a t h
    | some (.bool false) => exec m b t h
    | _ => none
  | .block id b, t, h => match exec m b t h with
    | some (.exit j, t', h') => if j = id then some (.normal, t', h') else some (.exit j, t', h')
    | r => r
  | .loop b, t, h => loopA (exec m b) m t h
  | .exit id, t, h => some (.exit id, t, h)
  | .ret, t, h => some (.ret, t, h)
  | _, _, _ => none
 where
  loopA (round : List Value → AH → Option (Exit × List Value × AH)) : Nat → List Value → AH → Option (Exit × List Value × AH)
    | 0, _, _ => none
    | k + 1, t, h => match round t h with
      | some (.normal, t', h') => loopA round k t' h'
      | r => r

def resOne (t : List Value) (h : AH) : ResultVar → Option Value
  | .tmp i => nthR i t
  | .cell a ty => match nthR a t with
    | some (.pointer (some p)) => aLoad P h ty p
    | _ => none

def resAll (t : List Value) (h : AH) : List ResultVar → Option (List Value)
  | [] => some []
  | r :: rs => (resOne P t h r).bind fun v => (resAll t h rs).bind fun vs => some (v :: vs)
end

/-- A call, d deep at most, m rounds a loop at most. prim: what functions are known for. -/
def callA (P : Program) (N : Nat) (prim : FuncId → Option (List Value → AH → Option (Value × AH))) (m : Nat) : Nat → FuncId → List Value → AH → Option (Value × AH)
  | 0, _, _, _ => none
  | d + 1, f, args, h =>
    match (prim f).bind fun g => g args h with
    | some r => some r
    | none => match P.funcs[f]? with
      | none => none
      | some fn => match fn.body with
        | none => none
        | some c => match exec P N (callA P N prim m d) m c (args ++ List.replicate (fn.ntmps - args.length) undef) h with
          | some (.normal, t, h') | some (.ret, t, h') => match resAll P t h' fn.results.toList with
            | some [v] => some (v, h')
            | some vs => some (.tuple ⟨vs⟩, h')
            | none => none
          | _ => none
end Go.Proofs.YtgjddachhhmimaaGreatDoor.Ax
