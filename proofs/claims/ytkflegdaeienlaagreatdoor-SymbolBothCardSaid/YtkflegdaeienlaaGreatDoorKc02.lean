/- Merged from the working texts PwB. -/
import Derived.Test.YtkflegdaeienlaaGreatDoorKc01
set_option linter.all false
set_option maxHeartbeats 400000
set_option linter.unusedVariables false
set_option linter.unusedSimpArgs false
namespace Go.Pw
open Go.RowKit
inductive TK where
 | sl (e : Nat)
 | ar (n e : Nat)
 | st (fs : List (Nat × Nat))
 | bo
 | ot
structure TI where
 size : Nat
 bytes : Nat
 zero : List Value
 kind : TK
def TK.agg : TK → Bool
 | .ar .. | .st _ => true
 | _ => false
structure TOk (P : Program) (t : Nat) (i : TI) : Prop where
 size : (P.info? t).map (·.size) = some i.size
 bytes : (P.info? t).map (·.bytes) = some i.bytes
 zero : ((P.info? t).bind (·.zero)).map (fun z => z.cells.toList) = some i.zero
 zsz : i.zero.length = i.size
 zone : i.zero.all (·.oneCell') = true
 pos : 0 < i.size
 kind : match i.kind with
   | .sl e => P.underlying t = some (.slice e)
   | .ar n e => P.underlying t = some (.array n e)
   | .st fs => ∃ F, P.underlying t = some (.struct F) ∧ F.toList.map (fun f => (f.offset, f.type)) = fs
   | .bo => P.underlying t = some .bool
   | .ot => ((P.underlying t).map fun d => match d with | .struct _ | .array _ _ => false | _ => true) = some true
structure Env where
 P : Program
 gpv : Nat → PV
 tt : Nat → Option TI
 ok : ∀ t i, tt t = some i → TOk P t i
def Con (E : Env) (f : FuncId) (args : List PV) (d : PV) : Prop :=
 (∀ vs w, (callFunc f vs).run E.P w = .ok (.enter f vs) w) ∧ ∀ (w : World) (A : Nat → Prop) (vs : Array Value), vs.size = args.length → (∀ j x, args[j]? = some x → R w A (vs.getD j undef) x) → (∀ b, A b → b < w.heap.size) →
   (∀ g, R w A (.pointer (some ⟨g, 0, none⟩)) (E.gpv g)) →
   Calls E.P f vs w fun e w' => ∃ v, e = .returned v ∧ R w' A v d ∧ Below w.heap.size w w'
def constSV : Value → SV
 | .agg cs => if cs.all (·.oneCell') then .sh (.agg (cs.toList.map .val)) else .sh .any
 | v => .sh (.val v)
def St.ev (E : Env) (σ : St) : Operand → SV
 | .tmp t => σ.s t
 | .const v => constSV v
 | .global g => .sh (E.gpv g)
 | .func f => .sh (.fn f [])
def SV.unsh : SV → PV
 | .sh d => d
 | _ => .any
def SV.isSh : SV → Bool
 | .sh _ => true
 | _ => false
def SR (rows : List (List PV)) : List (List SV) := rows.map fun r => r.map .sh
def PV.one : PV → Bool
 | .val v => v.oneCell'
 | .sl _ | .ea _ | .fn _ _ | .mp _ | .e0 => true
 | _ => false
def SV.one : SV → Bool
 | .sh d => d.one
 | .mg _ _ => false
 | _ => true
def SV.cells : SV → Option (List SV)
 | .sh (.agg ds) => some (ds.map .sh)
 | .sh .any | .sh (.tup _) => none
 | .mg pre k => some (pre.map .sh ++ [.mr k])
 | x => some [x]
def aggSV (cs : List SV) : Option SV := if cs.all SV.isSh = true then some (.sh (.agg (cs.map SV.unsh))) else match cs.getLast? with
 | some (.mr k) => if (cs.dropLast.all SV.isSh) = true then some (.mg (cs.dropLast.map SV.unsh) k) else none
 | _ => none
def PV.cells : PV → Option (List PV)
 | .agg ds => some ds
 | .any | .tup _ => none
 | x => some [x]
def splice (cs : List SV) (off : Nat) (ys : List SV) : List SV := cs.take off ++ ys ++ cs.drop (off + ys.length)
def spliceP (cs : List PV) (off : Nat) (ys : List PV) : List PV := cs.take off ++ ys ++ cs.drop (off + ys.length)
def SV.share (k : Nat) (rows : List (List PV)) : SV → SV
 | .row k' => if k' = k then .sh (.sl rows) else .row k'
 | .rp k' sz i j => if k' = k then .sh .any else .rp k' sz i j
 | x => x
def Ob.share (k : Nat) (rows : List (List PV)) : Ob → Ob
 | .box cs => .box (cs.map (SV.share k rows))
 | .rw e sz rs => .rw e sz (rs.map fun r => r.map (SV.share k rows))
 | x => x
def SV.shareM (k : Nat) (ds : List (ByteArray × PV)) : SV → SV
 | .mr k' => if k' = k then .sh (.mp ds) else .mr k'
 | .mg pre k' => if k' = k then .sh (.agg (pre ++ [.mp ds])) else .mg pre k'
 | x => x
def Ob.shareM (k : Nat) (ds : List (ByteArray × PV)) : Ob → Ob
 | .box cs => .box (cs.map (SV.shareM k ds))
 | .rw e sz rs => .rw e sz (rs.map fun r => r.map (SV.shareM k ds))
 | x => x
def St.shareM (σ : St) (k : Nat) (ds : List (ByteArray × PV)) : St := { s := fun i => (σ.s i).shareM k ds, o := fun i => if i = k then none else (σ.o i).map (Ob.shareM k ds) }
def St.share (σ : St) (k : Nat) (rows : List (List PV)) : St := { s := fun i => (σ.s i).share k rows, o := fun i => if i = k then none else (σ.o i).map (Ob.share k rows) }
def unSR (rows : List (List SV)) : List (List PV) := rows.map fun r => r.map SV.unsh
def allSh (rows : List (List SV)) : Bool := rows.all fun r => r.all SV.isSh
def PV.nz1 : PV → PV
 | .val (.slice none 0 0) => .sl []
 | .e0 => .sl []
 | d => d
def PV.nz : PV → PV
 | .agg ds => .agg (ds.map PV.nz1)
 | d => d
def withSh (q : Bool) (σ : St) (x : SV) (K : PV → St → Prop) : Prop :=
 match x with
 | .sh (.val (.slice none 0 0)) => K (.sl []) σ
 | .sh .e0 => K (.sl []) σ
 | .sh d => K d.nz σ
 | .row k => match σ.o k with
   | some (.rw _ _ rows) => q = false ∧ allSh rows = true ∧ K (.sl (unSR rows)) (σ.share k (unSR rows))
   | _ => False
 | .mg pre k => match σ.o k with
   | some (.mp ds) => q = false ∧ K (.agg (pre ++ [.mp ds])) (σ.shareM k ds)
   | _ => False
 | _ => False
def withShs (E : Env) (q : Bool) : St → List Operand → (List PV → St → Prop) → Prop
 | σ, [], K => K [] σ
 | σ, x :: xs, K => withSh q σ (σ.ev E x) fun d τ => withShs E q τ xs fun ds υ => K (d :: ds) υ
def binP (op : BinOp) (k : IntKind) (a b : Int) (K : Value → Prop) : Prop :=
 match op with
 | .add => K (.int k (k.wrap (a + b)))
 | .sub => K (.int k (k.wrap (a - b)))
 | .mul => K (.int k (k.wrap (a * b)))
 | .quo => b ≠ 0 ∧ K (.int k (k.wrap (a.tdiv b)))
 | .rem => b ≠ 0 ∧ K (.int k (a.tmod b))
 | .and => K (.int k (k.wrap (BitVec.ofInt k.bits a &&& BitVec.ofInt k.bits b).toNat))
 | .or => K (.int k (k.wrap (BitVec.ofInt k.bits a ||| BitVec.ofInt k.bits b).toNat))
 | .xor => K (.int k (k.wrap (BitVec.ofInt k.bits a ^^^ BitVec.ofInt k.bits b).toNat))
 | .eql => K (.bool (a == b))
 | .neq => K (.bool (a != b))
 | .lss => K (.bool (decide (a < b)))
 | .leq => K (.bool (decide (a ≤ b)))
 | .gtr => K (.bool (decide (a > b)))
 | .geq => K (.bool (decide (a ≥ b)))
 | _ => False
def binS (op : BinOp) (k : IntKind) (a b : Int) (K : Value → Prop) : Prop :=
 match op with
 | .shl => 0 ≤ b ∧ K (.int k (k.wrap (a * 2 ^ (min b.toNat k.bits))))
 | .shr => 0 ≤ b ∧ K (.int k (a.fdiv (2 ^ (min b.toNat k.bits))))
 | _ => False
def isShift : BinOp → Bool
 | .shl | .shr => true
 | _ => false
def buildC (place : Nat → Option (Nat × Nat)) : List PV → List (Nat × PV) → (List PV → Prop) → Prop
 | cs, [], K => K cs
 | cs, (i, d) :: rest, K => match place i, d.cells with
   | some (off, size), some ys => ys.length = size ∧ off + size ≤ cs.length ∧ ys.all PV.one = true ∧ buildC place (spliceP cs off ys) rest K
   | _, _ => False
def placeOf (E : Env) (k : TK) (i : Nat) : Option (Nat × Nat) := match k with
 | .st fs => match fs[i]? with
   | some (o, ft) => (E.tt ft).map fun j => (o, j.size)
   | none => none
 | .ar _ e => (E.tt e).map fun j => (i * j.size, j.size)
 | _ => none
def kOk (E : Env) : TK → Bool
 | .st fs => fs.all fun p => (E.tt p.2).isSome
 | .ar _ e => (E.tt e).isSome
 | _ => false
def buildP (E : Env) (q : Bool) (σ : St) (T : Nat) (parts : List (Nat × Operand)) (K : PV → St → Prop) : Prop := match E.tt T with
 | some i => kOk E i.kind = true ∧ withShs E q σ (parts.map (·.2)) fun ds τ => buildC (placeOf E i.kind) (i.zero.map .val) ((parts.map (·.1)).zip ds) fun cs => K (.agg cs) τ
 | none => False
def sliceP (E : Env) (q : Bool) (σ : St) (T : Nat) (x : Operand) (lo hi : Option Operand) (K : PV → St → Prop) : Prop := match E.tt T with
 | some i => match i.kind with
   | .sl e => withSh q σ (σ.ev E x) fun d τ => match d with
     | .sl rows => (∃ ie, E.tt e = some ie ∧ ∀ r ∈ rows, r.length = ie.size) ∧ match lo.map (τ.ev E), hi.map (τ.ev E) with
       | none, none => K (.sl rows) τ
       | some (.sh (.val (.int _ l))), none => 0 ≤ l ∧ l.toNat ≤ rows.length ∧ K (.sl (rows.drop l.toNat)) τ
       | none, some (.sh (.val (.int _ h))) => 0 ≤ h ∧ h.toNat ≤ rows.length ∧ K (.sl (rows.take h.toNat)) τ
       | some (.sh (.val (.int _ l))), some (.sh (.val (.int _ h))) => 0 ≤ l ∧ l ≤ h ∧ h.toNat ≤ rows.length ∧ K (.sl ((rows.take h.toNat).drop l.toNat)) τ
       | _, _ => False
     | _ => False
   | _ => False
 | none => False
def mapOf (σ : St) : SV → Option (List (ByteArray × PV))
 | .sh (.mp ds) => some ds
 | .mr k => match σ.o k with
   | some (.mp ds) => some ds
   | _ => none
 | _ => none
def zeroPV (i : TI) : PV := .agg (i.zero.map .val)
def mget (z : PV) (s : ByteArray) : List (ByteArray × PV) → PV
 | [] => z
 | (k, d) :: ds => if k = s then d else mget z s ds
def mdel (s : ByteArray) (ds : List (ByteArray × PV)) : List (ByteArray × PV) := ds.filter fun p => decide (p.1 ≠ s)
def mput (s : ByteArray) (d : PV) (ds : List (ByteArray × PV)) : List (ByteArray × PV) := (s, d) :: mdel s ds
def litP (E : Env) (σ : St) (T len : Nat) (parts : List (Nat × Operand)) (K : PV → Prop) : Prop := match E.tt T with
 | some i => match i.kind with
   | .sl e => match E.tt e with
     | some ie => parts.map (·.1) = List.range len ∧ len * ie.size ≤ 2 ^ 24 ∧ withShs E true σ (parts.map (·.2)) fun ds _ =>
         (ds.all fun x => match x.cells with | some cs => decide (cs.length = ie.size) && cs.all PV.one | none => false) = true ∧
         K (if ds = [] then .e0 else .sl (ds.map fun x => x.cells.getD []))
     | none => False
   | _ => False
 | none => False
def mkP (E : Env) (t : Option TI) (l c : SV) (K : PV → Prop) : Prop := match t with
 | some i => match i.kind with
   | .sl e => match E.tt e with
     | some ie => match l, c with
       | .sh (.val (.int .i64 n)), .sh (.val (.int .i64 m)) => n = m ∧ 0 ≤ n ∧ n.toNat * ie.bytes ≤ maxN ∧ n ≤ maxN ∧ K (if n = 0 then .e0 else .sl (List.replicate n.toNat (ie.zero.map .val)))
       | _, _ => False
     | none => False
   | _ => False
 | none => False
def addP (E : Env) (σ : St) (args : List Operand) (ts : List Nat) (K : PV → Prop) : Prop := match args, ts with
 | [s, x], [t, t'] => t' = t ∧ match E.tt t with
   | some i => match i.kind with
     | .sl e => match E.tt e with
       | some ie => match σ.ev E s with
         | .sh .e0 => withSh true σ (σ.ev E x) fun d _ => match d with
           | .sl more => (more.all fun r => decide (r.length = ie.size) && r.all PV.one) = true ∧ more.length * ie.bytes ≤ maxN ∧ more.length ≤ maxN ∧ K (.sl more)
           | _ => False
         | _ => False
       | none => False
     | _ => False
   | none => False
 | _, _ => False
def capsQ : List SV → (List PV → Prop) → Prop
 | [], K => K []
 | x :: xs, K => match x with
   | .sh (.ea ds) => capsQ xs fun l => K (.ea ds :: l)
   | _ => False
def ppop (E : Env) (op : Op) (σ : St) (K : SV → Prop) : Prop :=
 match op with
 | .move x | .assign x => K (σ.ev E x)
 | .pick c a b => match σ.ev E c with
   | .sh (.val (.bool t)) => (t = true → K (σ.ev E a)) ∧ (t = false → K (σ.ev E b))
   | _ => False
 | .load T a => match E.tt T with
   | some i => match σ.ev E a with
     | .bp k off => match σ.o k with
       | some (.box cs) => if i.kind.agg then off + i.size ≤ cs.length ∧ match aggSV ((cs.drop off).take i.size) with
             | some x => K x
             | none => False
           else match cs[off]? with
             | some x => K x
             | none => False
       | _ => False
     | .rp k sz n j => match σ.o k with
       | some (.rw _ sz' rows) => sz' = sz ∧ match rows[n]? with
         | some r => if i.kind.agg then j + i.size ≤ r.length ∧ ((r.drop j).take i.size).all SV.isSh = true ∧ K (.sh (.agg (((r.drop j).take i.size).map SV.unsh)))
             else match r[j]? with
               | some x => K x
               | none => False
         | none => False
       | _ => False
     | .sh (.ea ds) => if i.kind.agg then i.size ≤ ds.length ∧ K (.sh (.agg (ds.take i.size))) else match ds[0]? with
         | some d => K (.sh d)
         | none => False
     | _ => False
   | none => False
 | .nilCheck x => match σ.ev E x with
   | .bp k off => K (.bp k off)
   | .rp k sz i j => K (.rp k sz i j)
   | .sh (.ea ds) => K (.sh (.ea ds))
   | .sh (.fn g cs) => K (.sh (.fn g cs))
   | _ => False
 | .binOp op T x y _ => match σ.ev E x, σ.ev E y with
   | .sh (.val (.int k a)), .sh (.val (.int k' b)) => if isShift op then binS op k a b fun v => K (.sh (.val v)) else k = k' ∧ binP op k a b fun v => K (.sh (.val v))
   | .sh (.val (.bool a)), .sh (.val (.bool b)) => (E.tt T).map (·.kind) = some .bo ∧ match op with
     | .eql => K (.sh (.val (.bool (a == b))))
     | .neq => K (.sh (.val (.bool (!(a == b)))))
     | _ => False
   | _, _ => False
 | .unOp op _ x => match op, σ.ev E x with
   | .not, .sh (.val (.bool b)) => K (.sh (.val (.bool !b)))
   | .neg, .sh (.val (.int k n)) => K (.sh (.val (.int k (k.wrap (0 - n)))))
   | _, _ => False
 | .convert s d x => match σ.ev E x with
   | .sh (.val (.int _ n)) => ∃ k, E.P.underlying d = some (.int k) ∧ (E.P.underlying s).isSome = true ∧ K (.sh (.val (.int k (k.wrap n))))
   | _ => False
 | .fieldAddr T x f => match E.tt T with
   | some i => match i.kind with
     | .st fs => match fs[f]? with
       | some (o, ft) => (E.tt ft).isSome = true ∧ match σ.ev E x with
         | .bp k off => K (.bp k (off + o))
         | .rp k sz i j => K (.rp k sz i (j + o))
         | .sh (.ea ds) => o < ds.length ∧ K (.sh (.ea (ds.drop o)))
         | _ => False
       | none => False
     | _ => False
   | none => False
 | .indexAddr T x ix => match E.tt T with
   | some i => match σ.ev E ix with
     | .sh (.val (.int k n)) => match i.kind with
       | .sl e => match E.tt e with
         | some ie => match σ.ev E x with
           | .sh (.sl rows) => 0 ≤ n ∧ ∃ r, rows[n.toNat]? = some r ∧ r.length = ie.size ∧ K (.sh (.ea r))
           | .row k => match σ.o k with
             | some (.rw _ sz rows) => 0 ≤ n ∧ n.toNat < rows.length ∧ sz = ie.size ∧ K (.rp k sz n.toNat 0)
             | _ => False
           | .sub k sz i m => 0 ≤ n ∧ n.toNat < m ∧ sz = ie.size ∧ K (.rp k sz (i + n.toNat) 0)
           | _ => False
         | none => False
       | .ar len e => match E.tt e with
         | some ie => 0 ≤ n ∧ n < (len : Int) ∧ match σ.ev E x with
           | .bp k off => K (.bp k (off + n.toNat * ie.size))
           | .sh (.ea ds) => n.toNat * ie.size < ds.length ∧ K (.sh (.ea (ds.drop (n.toNat * ie.size))))
           | _ => False
         | none => False
       | _ => False
     | _ => False
   | none => False
 | .index T x ix => match E.tt T with
   | some i => match σ.ev E ix, i.kind, σ.ev E x with
     | .sh (.val (.int k n)), .ar len e, .sh (.agg ds) => match E.tt e with
       | some ie => 0 ≤ n ∧ n < (len : Int) ∧ n.toNat * ie.size + ie.size ≤ ds.length ∧ if ie.kind.agg then K (.sh (.agg ((ds.drop (n.toNat * ie.size)).take ie.size))) else match ds[n.toNat * ie.size]? with
           | some d => K (.sh d)
           | none => False
       | none => False
     | .sh (.val (.int k n)), .ot, .sh (.val (.string s)) => E.P.underlying T = some .string ∧ 0 ≤ n ∧ ∃ b, s[n.toNat]? = some b ∧ K (.sh (.val (.int .u8 b.toNat)))
     | _, _, _ => False
   | none => False
 | .field T x f => match E.tt T with
   | some i => match i.kind with
     | .st fs => match fs[f]? with
       | some (o, ft) => match E.tt ft with
         | some j => match σ.ev E x with
           | .sh (.agg ds) => o + j.size ≤ ds.length ∧ if j.kind.agg then K (.sh (.agg ((ds.drop o).take j.size))) else match ds[o]? with
               | some d => K (.sh d)
               | none => False
           | .mg pre k => j.kind.agg = false ∧ j.size = 1 ∧ if o = pre.length then K (.mr k) else match pre[o]? with
               | some d => K (.sh d)
               | none => False
           | _ => False
         | none => False
       | none => False
     | _ => False
   | none => False
 | .lookup T x ix c => c = false ∧ ∃ kt et ie, E.P.underlying T = some (.map kt et) ∧ E.P.underlying kt = some .string ∧ E.tt et = some ie ∧ 2 ≤ ie.size ∧ match mapOf σ (σ.ev E x), σ.ev E ix with
   | some ds, .sh (.val (.string s)) => K (.sh (mget (zeroPV ie) s ds))
   | _, _ => False
 | .buildSlice T len parts => litP E σ T len parts.toList fun d => K (.sh d)
 | .makeSlice T l c => mkP E (E.tt T) (σ.ev E l) (σ.ev E c) fun d => K (.sh d)
 | .makeFunc (.func g) first caps => first.size = 0 ∧ capsQ (caps.toList.map (σ.ev E)) fun l => K (.sh (.fn g l))
 | .extract x i => match σ.ev E x with
   | .sh (.tup vs) => match vs[i]? with
     | some d => K (.sh d)
     | none => False
   | _ => False
 | .call c => match c.callee with
   | .builtin .len => match c.argTypes[0]?, c.args[0]? with
     | some t, some x => match E.tt t with
       | some i => match i.kind with
         | .sl _ => match σ.ev E x with
           | .sh (.sl rows) => K (.sh (.val (.int .i64 rows.length)))
           | .sh (.val (.slice none 0 0)) => K (.sh (.val (.int .i64 0)))
           | .row k => match σ.o k with
             | some (.rw _ _ rows) => K (.sh (.val (.int .i64 rows.length)))
             | _ => False
           | .sub _ _ _ n => K (.sh (.val (.int .i64 n)))
           | .sh .e0 => K (.sh (.val (.int .i64 0)))
           | _ => False
         | .ar n _ => K (.sh (.val (.int .i64 n)))
         | .ot => match σ.ev E x with
           | .sh (.val (.string s)) => E.P.underlying t = some .string ∧ K (.sh (.val (.int .i64 s.size)))
           | y => match mapOf σ y with
             | some ds => (∃ kt et, E.P.underlying t = some (.map kt et)) ∧ K (.sh (.val (.int .i64 ds.length)))
             | none => False
         | _ => False
       | none => False
     | _, _ => False
   | .builtin .append => addP E σ c.args.toList c.argTypes.toList fun d => K (.sh d)
   | .builtin .max => match c.args.toList.map (σ.ev E) with
     | [.sh (.val (.int k a)), .sh (.val (.int k' b))] => k = k' ∧ K (.sh (.val (.int k (max a b))))
     | _ => False
   | .builtin .min => match c.args.toList.map (σ.ev E) with
     | [.sh (.val (.int k a)), .sh (.val (.int k' b))] => k = k' ∧ K (.sh (.val (.int k (min a b))))
     | _ => False
   | .value f => match σ.ev E f with
     | .sh (.fn g caps) => withShs E true σ c.args.toList fun ds _ => ∃ d, Con E g (ds ++ caps) d ∧ K (.sh d)
     | _ => False
   | _ => False
 | .build T parts => buildP E true σ T parts.toList fun d _ => K (.sh d)
 | .slice T x lo hi none => sliceP E true σ T x lo hi fun d _ => K (.sh d)
 | _ => False
def St.make (σ : St) (k : Nat) (ob : Ob) : St := (σ.kill k).setO k ob
def SV.freeze (k : Nat) (ds : List PV) : SV → SV
 | .bp k' off => if k' = k then (if off < ds.length then .sh (.ea (ds.drop off)) else .sh .any) else .bp k' off
 | x => x
def Ob.freeze (k : Nat) (ds : List PV) : Ob → Ob
 | .box cs => .box (cs.map (SV.freeze k ds))
 | .rw e sz rs => .rw e sz (rs.map fun r => r.map (SV.freeze k ds))
 | x => x
def St.freeze (σ : St) (k : Nat) (ds : List PV) : St := { s := fun i => (σ.s i).freeze k ds, o := fun i => if i = k then none else (σ.o i).map (Ob.freeze k ds) }
def capsL : List SV → (SV → SV) → St → (List PV → St → Prop) → Prop
 | [], _, σ, K => K [] σ
 | x :: xs, f, σ, K => match f x with
   | .sh (.ea ds) => capsL xs f σ fun l τ => K (.ea ds :: l) τ
   | .bp k 0 => match σ.o k with
     | some (.box cs) => 0 < cs.length ∧ cs.all SV.isSh = true ∧ capsL xs (fun y => (f y).freeze k (cs.map SV.unsh)) (σ.freeze k (cs.map SV.unsh)) fun l τ => K (.ea (cs.map SV.unsh) :: l) τ
     | _ => False
   | _ => False
def shareCells : List SV → St → (St → Prop) → Prop
 | [], σ, K => K σ
 | .row k :: rest, σ, K => match σ.o k with
   | some (.rw _ _ rows) => allSh rows = true ∧ shareCells rest (σ.share k (unSR rows)) K
   | _ => False
 | _ :: rest, σ, K => shareCells rest σ K
def loadSh (E : Env) (T : Nat) (a : Operand) (σ : St) (K : SV → St → Prop) : Prop := match E.tt T, σ.ev E a with
 | some i, .bp k off => match i.kind.agg, σ.o k with
   | true, some (.box cs) => shareCells ((cs.drop off).take i.size) σ fun τ => ppop E (.load T a) τ fun x => K x τ
   | _, _ => ppop E (.load T a) σ fun x => K x σ
 | _, _ => ppop E (.load T a) σ fun x => K x σ
def epop (E : Env) (dst : Option Tmp) (op : Op) (σ : St) (K : SV → St → Prop) : Prop :=
 match op with
 | .alloc T => match dst, E.tt T with
   | some d, some i => K (.bp d 0) (σ.make d (.box (i.zero.map fun v => .sh (.val v))))
   | _, _ => False
 | .box T x => match dst, (σ.ev E x).cells with
   | some d, some cs => cs.all SV.one = true ∧ K (.bp d 0) (σ.make d (.box (cs.map (SV.kill d))))
   | _, _ => False
 | .store T a x => match E.tt T, (σ.ev E x).cells with
   | some i, some ys => ys.length = i.size ∧ ys.all SV.one = true ∧ match σ.ev E a with
     | .bp k off => match σ.o k with
       | some (.box cs) => off + i.size ≤ cs.length ∧ K (.sh .any) (σ.setO k (.box (splice cs off ys)))
       | _ => False
     | .rp k sz n j => match σ.o k with
       | some (.rw e sz' rows) => sz' = sz ∧ j + i.size ≤ sz ∧ match rows[n]? with
         | some r => K (.sh .any) (σ.setO k (.rw e sz' (rows.set n (splice r j ys))))
         | none => False
       | _ => False
     | _ => False
   | _, _ => False
 | .buildSlice T len parts => match dst, E.tt T with
   | some d, some i => match i.kind with
     | .sl e => match E.tt e with
       | some ie => parts.toList.map (·.1) = List.range len ∧ len * ie.size ≤ 2 ^ 24 ∧ withShs E false σ (parts.toList.map (·.2)) fun ds τ =>
           (ds.all fun x => match x.cells with | some cs => decide (cs.length = ie.size) && cs.all PV.one | none => false) = true ∧
           K (.row d) (τ.make d (.rw e ie.size (SR (ds.map fun x => x.cells.getD []))))
       | none => False
     | _ => False
   | _, _ => False
 | .makeSlice T l c => match dst, E.tt T with
   | some d, some i => match i.kind with
     | .sl e => match E.tt e with
       | some ie => match σ.ev E l, σ.ev E c with
         | .sh (.val (.int .i64 n)), .sh (.val (.int .i64 m)) => 0 ≤ n ∧ n ≤ m ∧ m.toNat * ie.bytes ≤ maxN ∧ m ≤ maxN ∧
             K (.row d) (σ.make d (.rw e ie.size (SR (List.replicate n.toNat (ie.zero.map .val)))))
         | _, _ => False
       | none => False
     | _ => False
   | _, _ => False
 | .makeMap T none => match dst with
   | some d => K (.mr d) (σ.make d (.mp []))
   | none => False
 | .mapUpdate T m k v => ∃ kt et, E.P.underlying T = some (.map kt et) ∧ E.P.underlying kt = some .string ∧ match σ.ev E k with
   | .sh (.val (.string s)) => withSh false σ (σ.ev E v) fun d τ => match τ.ev E m with
     | .mr q => match τ.o q with
       | some (.mp ds) => K (.sh .any) (τ.setO q (.mp (mput s d ds)))
       | _ => False
     | _ => False
   | _ => False
 | .range T x => ∃ kt et, E.P.underlying T = some (.map kt et) ∧ match dst, σ.ev E x with
   | some d, .sh (.mp ds) => K (.bp d 0) (σ.make d (.it none ds))
   | _, _ => False
 | .next x s => s = false ∧ match σ.ev E x with
   | .bp k 0 => match σ.o k with
     | some (.it _ rem) => (rem = [] → K (.sh (.tup [.val (.bool false)])) σ) ∧ ∀ j s d, rem[j]? = some (s, d) → K (.sh (.tup [.val (.bool true), .val (.string s), d])) (σ.setO k (.it (some (s, d)) (rem.eraseIdx j)))
     | _ => False
   | _ => False
 | .entry x => match σ.ev E x with
   | .bp k 0 => match σ.o k with
     | some (.it (some (s, d)) _) => K (.sh (.tup [.val (.string s), d])) σ
     | _ => False
   | _ => False
 | .makeFunc (.func g) first caps => first.size = 0 ∧ capsL (caps.toList.map (σ.ev E)) id σ fun l τ => K (.sh (.fn g l)) τ
 | .load T a => loadSh E T a σ K
 | .build T parts => buildP E false σ T parts.toList fun d τ => K (.sh d) τ
 | .slice T x lo hi none => sliceP E false σ T x lo hi fun d τ => K (.sh d) τ
 | .call c => match c.callee with
   | .builtin .append => match c.args.toList, c.argTypes.toList with
     | [s, x], [t, t'] => t' = t ∧ match E.tt t with
       | some i => match i.kind with
         | .sl e => match E.tt e with
           | some ie => withSh false σ (σ.ev E x) fun d τ => match d with
             | .sl more => (more.all fun r => decide (r.length = ie.size) && r.all PV.one) = true ∧ match τ.ev E s with
               | .row k => match τ.o k with
                 | some (.rw e' sz rows) => k < 1000000 ∧ e' = e ∧ sz = ie.size ∧ (rows.length + more.length) * ie.bytes ≤ maxN ∧ rows.length + more.length ≤ maxN ∧
                     K (.row k) (τ.make k (.rw e sz ((rows.map fun r => r.map (SV.kill k)) ++ SR more)))
                 | _ => False
               | .sh (.val (.slice none 0 0)) => match dst with
                 | some k => more.length * ie.bytes ≤ maxN ∧ more.length ≤ maxN ∧ K (.row k) (τ.make k (.rw e ie.size (SR more)))
                 | none => False
               | _ => False
             | _ => False
           | none => False
         | _ => False
       | none => False
     | _, _ => False
   | .builtin .delete => match c.args.toList, c.argTypes.toList with
     | [m, k], [t, _] => ∃ kt et, E.P.underlying t = some (.map kt et) ∧ E.P.underlying kt = some .string ∧ match σ.ev E m, σ.ev E k with
       | .mr q, .sh (.val (.string s)) => match σ.o q with
         | some (.mp ds) => K (.sh .any) (σ.setO q (.mp (mdel s ds)))
         | _ => False
       | _, _ => False
     | _, _ => False
   | .value f => match σ.ev E f with
     | .sh (.fn g caps) => withShs E false σ c.args.toList fun ds τ => ∃ d, Con E g (ds ++ caps) d ∧ K (.sh d) τ
     | _ => False
   | _ => ppop E (.call c) σ fun x => K x σ
 | op => ppop E op σ fun x => K x σ
end Go.Pw
