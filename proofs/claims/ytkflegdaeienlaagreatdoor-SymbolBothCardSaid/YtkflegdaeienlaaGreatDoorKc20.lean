/- Merged from the working texts PwX. -/
import Derived.Test.YtkflegdaeienlaaGreatDoorKc18
set_option linter.all false
set_option maxHeartbeats 400000
set_option maxRecDepth 100000
set_option linter.unusedVariables false
set_option linter.unusedSimpArgs false
namespace Go.Pw
open Go Go.Proofs
def optP {α : Type} (x : Option α) (K : α → Prop) : Prop := match x with
 | some a => K a
 | none => False
def pickV (c a b : SV) (K : SV → Prop) : Prop := match c with
 | .sh (.val (.bool t)) => (t = true → K a) ∧ (t = false → K b)
 | _ => False
def binV (E : Env) (op : BinOp) (T : Nat) (x y : SV) (K : Value → Prop) : Prop := match x, y with
 | .sh (.val (.int k a)), .sh (.val (.int k' b)) => if isShift op then binS op k a b K else k = k' ∧ binP op k a b K
 | .sh (.val (.bool a)), .sh (.val (.bool b)) => (E.tt T).map (·.kind) = some .bo ∧ match op with
   | .eql => K (.bool (a == b))
   | .neq => K (.bool (!(a == b)))
   | _ => False
 | _, _ => False
def unV (op : UnOp) (x : SV) (K : Value → Prop) : Prop := match op, x with
 | .not, .sh (.val (.bool b)) => K (.bool !b)
 | .neg, .sh (.val (.int k n)) => K (.int k (k.wrap (0 - n)))
 | _, _ => False
def convV (u : Option TypeDesc) (s : Bool) (x : SV) (K : Value → Prop) : Prop := match x with
 | .sh (.val (.int _ n)) => ∃ k, u = some (.int k) ∧ s = true ∧ K (.int k (k.wrap n))
 | _ => False
def nilV (x : SV) (K : SV → Prop) : Prop := match x with
 | .bp k off => K (.bp k off)
 | .rp k sz i j => K (.rp k sz i j)
 | .sh (.ea ds) => K (.sh (.ea ds))
 | .sh (.fn g cs) => K (.sh (.fn g cs))
 | _ => False
def lenV (u : Option TypeDesc) (t : Option TI) (σ : St) (x : SV) (K : SV → Prop) : Prop := match t with
 | some i => match i.kind with
   | .sl _ => match x with
     | .sh (.sl rows) => K (.sh (.val (.int .i64 rows.length)))
     | .sh (.val (.slice none 0 0)) => K (.sh (.val (.int .i64 0)))
     | .row k => match σ.o k with
       | some (.rw _ _ rows) => K (.sh (.val (.int .i64 rows.length)))
       | _ => False
     | .sub _ _ _ n => K (.sh (.val (.int .i64 n)))
     | .sh .e0 => K (.sh (.val (.int .i64 0)))
     | _ => False
   | .ar n _ => K (.sh (.val (.int .i64 n)))
   | .ot => match x with
     | .sh (.val (.string s)) => u = some .string ∧ K (.sh (.val (.int .i64 s.size)))
     | y => match mapOf σ y with
       | some ds => (∃ kt et, u = some (.map kt et)) ∧ K (.sh (.val (.int .i64 ds.length)))
       | none => False
   | _ => False
 | none => False
def mmV (f : Int → Int → Int) (x y : SV) (K : SV → Prop) : Prop := match x, y with
 | .sh (.val (.int k a)), .sh (.val (.int k' b)) => k = k' ∧ K (.sh (.val (.int k (f a b))))
 | _, _ => False
def extV (x : SV) (i : Nat) (K : SV → Prop) : Prop := match x with
 | .sh (.tup vs) => match vs[i]? with
   | some d => K (.sh d)
   | none => False
 | _ => False
def pplV (i : Option TI) (x : SV) (σ : St) (K : SV → Prop) : Prop := match i with
 | some i => match x with
   | .bp k off => match σ.o k with
     | some (.box cs) => if i.kind.agg then off + i.size ≤ cs.length ∧ optP (aggSV ((cs.drop off).take i.size)) K
         else optP cs[off]? K
     | _ => False
   | .rp k sz n j => match σ.o k with
     | some (.rw _ sz' rows) => sz' = sz ∧ optP rows[n]? fun r => if i.kind.agg then j + i.size ≤ r.length ∧ ((r.drop j).take i.size).all SV.isSh = true ∧ K (.sh (.agg (((r.drop j).take i.size).map SV.unsh)))
           else optP r[j]? K
     | _ => False
   | .sh (.ea ds) => if i.kind.agg then i.size ≤ ds.length ∧ K (.sh (.agg (ds.take i.size))) else optP ds[0]? fun d => K (.sh d)
   | _ => False
 | none => False
def loadV (E : Env) (T : Nat) (a : Operand) (i : Option TI) (x : SV) (σ : St) (K : SV → St → Prop) : Prop := match i, x with
 | some i, .bp k off => match i.kind.agg, σ.o k with
   | true, some (.box cs) => shareCells ((cs.drop off).take i.size) σ fun τ => ppop E (.load T a) τ fun x => K x τ
   | _, _ => ppop E (.load T a) σ fun x => K x σ
 | _, _ => ppop E (.load T a) σ fun x => K x σ
def fldV (E : Env) (i : Option TI) (f : Nat) (x : SV) (K : SV → Prop) : Prop := match i with
 | some i => match i.kind with
   | .st fs => match fs[f]? with
     | some (o, ft) => (E.tt ft).isSome = true ∧ match x with
       | .bp k off => K (.bp k (off + o))
       | .rp k sz i j => K (.rp k sz i (j + o))
       | .sh (.ea ds) => o < ds.length ∧ K (.sh (.ea (ds.drop o)))
       | _ => False
     | none => False
   | _ => False
 | none => False
def ixaV (E : Env) (i : Option TI) (σ : St) (x ix : SV) (K : SV → Prop) : Prop := match i with
 | some i => match ix with
   | .sh (.val (.int k n)) => match i.kind with
     | .sl e => match E.tt e with
       | some ie => match x with
         | .sh (.sl rows) => 0 ≤ n ∧ ∃ r, rows[n.toNat]? = some r ∧ r.length = ie.size ∧ K (.sh (.ea r))
         | .row k => match σ.o k with
           | some (.rw _ sz rows) => 0 ≤ n ∧ n.toNat < rows.length ∧ sz = ie.size ∧ K (.rp k sz n.toNat 0)
           | _ => False
         | .sub k sz i m => 0 ≤ n ∧ n.toNat < m ∧ sz = ie.size ∧ K (.rp k sz (i + n.toNat) 0)
         | _ => False
       | none => False
     | .ar len e => match E.tt e with
       | some ie => 0 ≤ n ∧ n < (len : Int) ∧ match x with
         | .bp k off => K (.bp k (off + n.toNat * ie.size))
         | .sh (.ea ds) => n.toNat * ie.size < ds.length ∧ K (.sh (.ea (ds.drop (n.toNat * ie.size))))
         | _ => False
       | none => False
     | _ => False
   | _ => False
 | none => False
def callV (E : Env) (q : Bool) (σ : St) (f : SV) (args : List Operand) (K : PV → St → Prop) : Prop := match f with
 | .sh (.fn g caps) => withShs E q σ args fun ds τ => ∃ d, Con E g (ds ++ caps) d ∧ K d τ
 | _ => False
def boxV (d : Option Tmp) (x : SV) (σ : St) (K : SV → St → Prop) : Prop := match d, x.cells with
 | some d, some cs => cs.all SV.one = true ∧ K (.bp d 0) (σ.make d (.box (cs.map (SV.kill d))))
 | _, _ => False
def allV (d : Option Tmp) (i : Option TI) (σ : St) (K : SV → St → Prop) : Prop := match d, i with
 | some d, some i => K (.bp d 0) (σ.make d (.box (i.zero.map fun v => .sh (.val v))))
 | _, _ => False
def stoV (i : Option TI) (a x : SV) (σ : St) (K : SV → St → Prop) : Prop := match i, x.cells with
 | some i, some ys => ys.length = i.size ∧ ys.all SV.one = true ∧ match a with
   | .bp k off => match σ.o k with
     | some (.box cs) => off + i.size ≤ cs.length ∧ K (.sh .any) (σ.setO k (.box (splice cs off ys)))
     | _ => False
   | .rp k sz n j => match σ.o k with
     | some (.rw e sz' rows) => sz' = sz ∧ j + i.size ≤ sz ∧ optP rows[n]? fun r => K (.sh .any) (σ.setO k (.rw e sz' (rows.set n (splice r j ys))))
     | _ => False
   | _ => False
 | _, _ => False
def bslV (E : Env) (d : Option Tmp) (i : Option TI) (len : Nat) (idx : List Nat) (ops : List Operand) (σ : St) (K : SV → St → Prop) : Prop := match d, i with
 | some d, some i => match i.kind with
   | .sl e => match E.tt e with
     | some ie => idx = List.range len ∧ len * ie.size ≤ 2 ^ 24 ∧ withShs E false σ ops fun ds τ =>
         (ds.all fun x => match x.cells with | some cs => decide (cs.length = ie.size) && cs.all PV.one | none => false) = true ∧
         K (.row d) (τ.make d (.rw e ie.size (SR (ds.map fun x => x.cells.getD []))))
     | none => False
   | _ => False
 | _, _ => False
def mslV (E : Env) (d : Option Tmp) (i : Option TI) (l c : SV) (σ : St) (K : SV → St → Prop) : Prop := match d, i with
 | some d, some i => match i.kind with
   | .sl e => match E.tt e with
     | some ie => match l, c with
       | .sh (.val (.int .i64 n)), .sh (.val (.int .i64 m)) => 0 ≤ n ∧ n ≤ m ∧ m.toNat * ie.bytes ≤ maxN ∧ m ≤ maxN ∧
           K (.row d) (σ.make d (.rw e ie.size (SR (List.replicate n.toNat (ie.zero.map .val)))))
       | _, _ => False
     | none => False
   | _ => False
 | _, _ => False
def mfnV (g : Nat) (caps : List SV) (σ : St) (K : SV → St → Prop) : Prop := capsL caps id σ fun l τ => K (.sh (.fn g l)) τ
def capW (x : SV) (xs : List SV) (f : SV → SV) (σ : St) (K : List PV → St → Prop) : Prop := match x with
 | .sh (.ea ds) => capsL xs f σ fun l τ => K (.ea ds :: l) τ
 | .bp k 0 => match σ.o k with
   | some (.box cs) => 0 < cs.length ∧ cs.all SV.isSh = true ∧ capsL xs (fun y => (f y).freeze k (cs.map SV.unsh)) (σ.freeze k (cs.map SV.unsh)) fun l τ => K (.ea (cs.map SV.unsh) :: l) τ
   | _ => False
 | _ => False
theorem capsL_nil (f : SV → SV) (σ : St) (K : List PV → St → Prop) : capsL [] f σ K = K [] σ := rfl
theorem capsL_cons (x : SV) (xs : List SV) (f : SV → SV) (σ : St) (K : List PV → St → Prop) : capsL (x :: xs) f σ K = capW (f x) xs f σ K := rfl
def capX (x : SV) (xs : List SV) (K : List PV → Prop) : Prop := match x with
 | .sh (.ea ds) => capsQ xs fun l => K (.ea ds :: l)
 | _ => False
theorem capsQ_nil (K : List PV → Prop) : capsQ [] K = K [] := rfl
theorem capsQ_cons (x : SV) (xs : List SV) (K : List PV → Prop) : capsQ (x :: xs) K = capX x xs K := rfl
def fieV (E : Env) (t : Option TI) (f : Nat) (x : SV) (K : SV → Prop) : Prop := match t with
 | some i => match i.kind with
   | .st fs => match fs[f]? with
     | some (o, ft) => match E.tt ft with
       | some j => match x with
         | .sh (.agg ds) => o + j.size ≤ ds.length ∧ if j.kind.agg then K (.sh (.agg ((ds.drop o).take j.size))) else match ds[o]? with
             | some d => K (.sh d)
             | none => False
         | .mg pre k => j.kind.agg = false ∧ j.size = 1 ∧ if o = pre.length then K (.mr k) else match pre[o]? with
             | some d => K (.sh d)
             | none => False
         | _ => False
       | none => False
     | none => False
   | _ => False
 | none => False
def lkpV (E : Env) (u : Option TypeDesc) (σ : St) (x ix : SV) (K : SV → Prop) : Prop := match u with
 | some (.map kt et) => E.P.underlying kt = some .string ∧ match E.tt et with
   | some ie => 2 ≤ ie.size ∧ match mapOf σ x, ix with
     | some ds, .sh (.val (.string s)) => K (.sh (mget (zeroPV ie) s ds))
     | _, _ => False
   | none => False
 | _ => False
def mupV (E : Env) (u : Option TypeDesc) (m : Operand) (k v : SV) (σ : St) (K : SV → St → Prop) : Prop := match u with
 | some (.map kt _) => E.P.underlying kt = some .string ∧ match k with
   | .sh (.val (.string s)) => withSh false σ v fun d τ => match τ.ev E m with
     | .mr q => match τ.o q with
       | some (.mp ds) => K (.sh .any) (τ.setO q (.mp (mput s d ds)))
       | _ => False
     | _ => False
   | _ => False
 | _ => False
def delV (E : Env) (u : Option TypeDesc) (m k : SV) (σ : St) (K : SV → St → Prop) : Prop := match u with
 | some (.map kt _) => E.P.underlying kt = some .string ∧ match m, k with
   | .mr q, .sh (.val (.string s)) => match σ.o q with
     | some (.mp ds) => K (.sh .any) (σ.setO q (.mp (mdel s ds)))
     | _ => False
   | _, _ => False
 | _ => False
def rngV (u : Option TypeDesc) (d : Option Tmp) (x : SV) (σ : St) (K : SV → St → Prop) : Prop := match u with
 | some (.map _ _) => match d, x with
   | some d, .sh (.mp ds) => K (.bp d 0) (σ.make d (.it none ds))
   | _, _ => False
 | _ => False
def nxtV (x : SV) (σ : St) (K : SV → St → Prop) : Prop := match x with
 | .bp k 0 => match σ.o k with
   | some (.it _ rem) => (rem = [] → K (.sh (.tup [.val (.bool false)])) σ) ∧ ∀ j s d, rem[j]? = some (s, d) → K (.sh (.tup [.val (.bool true), .val (.string s), d])) (σ.setO k (.it (some (s, d)) (rem.eraseIdx j)))
   | _ => False
 | _ => False
def entV (x : SV) (σ : St) (K : SV → St → Prop) : Prop := match x with
 | .bp k 0 => match σ.o k with
   | some (.it (some (s, d)) _) => K (.sh (.tup [.val (.string s), d])) σ
   | _ => False
 | _ => False
def litV (E : Env) (σ : St) (t : Option TI) (len : Nat) (is : List Nat) (xs : List Operand) (K : PV → Prop) : Prop := match t with
 | some i => match i.kind with
   | .sl e => match E.tt e with
     | some ie => is = List.range len ∧ len * ie.size ≤ 2 ^ 24 ∧ withShs E true σ xs fun ds _ =>
         (ds.all fun x => match x.cells with | some cs => decide (cs.length = ie.size) && cs.all PV.one | none => false) = true ∧
         K (if ds = [] then .e0 else .sl (ds.map fun x => x.cells.getD []))
     | none => False
   | _ => False
 | none => False
def addV (E : Env) (σ : St) (t : Option TI) (s x : SV) (K : PV → Prop) : Prop := match t with
 | some i => match i.kind with
   | .sl e => match E.tt e with
     | some ie => match s with
       | .sh .e0 => withSh true σ x fun d _ => match d with
         | .sl more => (more.all fun r => decide (r.length = ie.size) && r.all PV.one) = true ∧ more.length * ie.bytes ≤ maxN ∧ more.length ≤ maxN ∧ K (.sl more)
         | _ => False
       | _ => False
     | none => False
   | _ => False
 | none => False
def appV (E : Env) (d : Option Tmp) (i : Option TI) (s : Operand) (x : SV) (σ : St) (K : SV → St → Prop) : Prop := match i with
 | some i => match i.kind with
   | .sl e => match E.tt e with
     | some ie => withSh false σ x fun dd τ => match dd with
       | .sl more => (more.all fun r => decide (r.length = ie.size) && r.all PV.one) = true ∧ match τ.ev E s with
         | .row k => match τ.o k with
           | some (.rw e' sz rows) => k < 1000000 ∧ e' = e ∧ sz = ie.size ∧ (rows.length + more.length) * ie.bytes ≤ maxN ∧ rows.length + more.length ≤ maxN ∧
               K (.row k) (τ.make k (.rw e sz ((rows.map fun r => r.map (SV.kill k)) ++ SR more)))
           | _ => False
         | .sh (.val (.slice none 0 0)) => match d with
           | some k => more.length * ie.bytes ≤ maxN ∧ more.length ≤ maxN ∧ K (.row k) (τ.make k (.rw e ie.size (SR more)))
           | none => False
         | _ => False
       | _ => False
     | none => False
   | _ => False
 | none => False
section
variable (E : Env) (σ : St) (d : Option Tmp) (K : SV → St → Prop) (K' : SV → Prop)
theorem e_move (x : Operand) : epop E d (.move x) σ K = K (σ.ev E x) σ := rfl
theorem e_assign (x : Operand) : epop E d (.assign x) σ K = K (σ.ev E x) σ := rfl
theorem e_pick (c a b : Operand) : epop E d (.pick c a b) σ K = pickV (σ.ev E c) (σ.ev E a) (σ.ev E b) fun x => K x σ := rfl
theorem e_bin (op : BinOp) (T : Nat) (x y : Operand) (T' : Nat) : epop E d (.binOp op T x y T') σ K = binV E op T (σ.ev E x) (σ.ev E y) fun v => K (.sh (.val v)) σ := rfl
theorem e_un (op : UnOp) (T : Nat) (x : Operand) : epop E d (.unOp op T x) σ K = unV op (σ.ev E x) fun v => K (.sh (.val v)) σ := rfl
theorem e_conv (s t : Nat) (x : Operand) : epop E d (.convert s t x) σ K = convV (E.P.underlying t) (E.P.underlying s).isSome (σ.ev E x) fun v => K (.sh (.val v)) σ := rfl
theorem e_nil (x : Operand) : epop E d (.nilCheck x) σ K = nilV (σ.ev E x) fun x => K x σ := rfl
theorem e_len (x : Operand) (t : Nat) : epop E d (.call { callee := .builtin .len, args := #[x], argTypes := #[t] }) σ K = lenV (E.P.underlying t) (E.tt t) σ (σ.ev E x) fun x => K x σ := rfl
theorem e_ext (x : Operand) (i : Nat) : epop E d (.extract x i) σ K = extV (σ.ev E x) i fun x => K x σ := rfl
theorem e_fld (T : Nat) (x : Operand) (f : Nat) : epop E d (.fieldAddr T x f) σ K = fldV E (E.tt T) f (σ.ev E x) fun x => K x σ := rfl
theorem e_ixa (T : Nat) (x ix : Operand) : epop E d (.indexAddr T x ix) σ K = ixaV E (E.tt T) σ (σ.ev E x) (σ.ev E ix) fun x => K x σ := rfl
theorem e_call (f : Operand) (args : Array Operand) (ts : Array TypeId) : epop E d (.call { callee := .value f, args := args, argTypes := ts }) σ K = callV E false σ (σ.ev E f) args.toList fun d τ => K (.sh d) τ := rfl
theorem e_box (T : Nat) (x : Operand) : epop E d (.box T x) σ K = boxV d (σ.ev E x) σ K := rfl
theorem e_alloc (T : Nat) : epop E d (.alloc T) σ K = allV d (E.tt T) σ K := rfl
theorem e_store (T : Nat) (a x : Operand) : epop E d (.store T a x) σ K = stoV (E.tt T) (σ.ev E a) (σ.ev E x) σ K := by
 simp only [epop, stoV]
 cases E.tt T <;> cases (σ.ev E x).cells <;> try rfl
 dsimp only
 cases σ.ev E a <;> try rfl
 dsimp only
 rename_i k sz n j
 cases σ.o k <;> try rfl
 rename_i ob
 cases ob <;> try rfl
 dsimp only
 rename_i rows
 cases rows[n]? <;> rfl
theorem e_bsl (T len : Nat) (parts : Array (Nat × Operand)) : epop E d (.buildSlice T len parts) σ K = bslV E d (E.tt T) len (parts.toList.map (·.1)) (parts.toList.map (·.2)) σ K := rfl
theorem e_msl (T : Nat) (l c : Operand) : epop E d (.makeSlice T l c) σ K = mslV E d (E.tt T) (σ.ev E l) (σ.ev E c) σ K := rfl
theorem e_build (T : Nat) (parts : Array (Nat × Operand)) : epop E d (.build T parts) σ K = buildP E false σ T parts.toList fun d τ => K (.sh d) τ := rfl
theorem e_slice (T : Nat) (x : Operand) (lo hi : Option Operand) : epop E d (.slice T x lo hi none) σ K = sliceP E false σ T x lo hi fun d τ => K (.sh d) τ := rfl
theorem e_mkm (T : Nat) (d : Nat) : epop E (some d) (.makeMap T none) σ K = K (.mr d) (σ.make d (.mp [])) := rfl
theorem e_mup (T : Nat) (m k v : Operand) : epop E d (.mapUpdate T m k v) σ K = mupV E (E.P.underlying T) m (σ.ev E k) (σ.ev E v) σ K := by
 simp only [epop, mupV]
 refine propext ⟨?_, ?_⟩
 · rintro ⟨kt, et, h1, h2, h3⟩
   rw [h1]; exact ⟨h2, h3⟩
 · intro h
   split at h
   · rename_i kt et hu
     exact ⟨kt, et, hu, h⟩
   · exact h.elim
theorem e_del (m k : Operand) (t t2 : Nat) : epop E d (.call { callee := .builtin .delete, args := #[m, k], argTypes := #[t, t2] }) σ K = delV E (E.P.underlying t) (σ.ev E m) (σ.ev E k) σ K := by
 simp only [epop, delV]
 refine propext ⟨?_, ?_⟩
 · rintro ⟨kt, et, h1, h2, h3⟩
   rw [h1]; exact ⟨h2, h3⟩
 · intro h
   split at h
   · rename_i kt et hu
     exact ⟨kt, et, hu, h⟩
   · exact h.elim
theorem e_rng (T : Nat) (x : Operand) : epop E d (.range T x) σ K = rngV (E.P.underlying T) d (σ.ev E x) σ K := by
 simp only [epop, rngV]
 refine propext ⟨?_, ?_⟩
 · rintro ⟨kt, et, h1, h2⟩
   rw [h1]; exact h2
 · intro h
   split at h
   · rename_i kt et hu
     exact ⟨kt, et, hu, h⟩
   · exact h.elim
theorem e_nxt (x : Operand) : epop E d (.next x false) σ K = nxtV (σ.ev E x) σ K := by
 simp only [epop, true_and]
 rfl
theorem e_ent (x : Operand) : epop E d (.entry x) σ K = entV (σ.ev E x) σ K := rfl
theorem e_lkp (T : Nat) (x ix : Operand) : epop E d (.lookup T x ix false) σ K = lkpV E (E.P.underlying T) σ (σ.ev E x) (σ.ev E ix) fun x => K x σ := by
 simp only [epop, ppop, lkpV, true_and]
 refine propext ⟨?_, ?_⟩
 · rintro ⟨kt, et, ie, h1, h2, h3, h4, h5⟩
   rw [h1]; simp only [h3]; exact ⟨h2, h4, h5⟩
 · intro h
   split at h
   · rename_i kt et hu
     obtain ⟨h1, h2⟩ := h
     split at h2
     · rename_i ie hie
       exact ⟨kt, et, ie, hu, h1, hie, h2.1, h2.2⟩
     · exact h2.elim
   · exact h.elim
theorem e_fie (T : Nat) (x : Operand) (f : Nat) : epop E d (.field T x f) σ K = fieV E (E.tt T) f (σ.ev E x) fun x => K x σ := rfl
theorem e_mfn (g : Nat) (first : Array Operand) (caps : Array Operand) : epop E d (.makeFunc (.func g) first caps) σ K = (first.size = 0 ∧ mfnV g (caps.toList.map (σ.ev E)) σ K) := rfl
theorem e_app (s x : Operand) (t : Nat) : epop E d (.call { callee := .builtin .append, args := #[s, x], argTypes := #[t, t] }) σ K = appV E d (E.tt t) s (σ.ev E x) σ K := by
 simp only [epop, List.toList_toArray, true_and, appV]; rfl
theorem e_load (T : Nat) (a : Operand) : epop E d (.load T a) σ K = loadV E T a (E.tt T) (σ.ev E a) σ K := rfl
theorem e_ppl (T : Nat) (a : Operand) : ppop E (.load T a) σ K' = pplV (E.tt T) (σ.ev E a) σ K' := by
 simp only [ppop, pplV]
 cases E.tt T <;> try rfl
 dsimp only
 rename_i i
 cases σ.ev E a <;> try rfl
 · rename_i d
   cases d <;> try rfl
   rename_i ds
   dsimp only
   split <;> try rfl
   cases ds[0]? <;> rfl
 · rename_i k off
   dsimp only
   cases σ.o k <;> try rfl
   rename_i ob
   cases ob <;> try rfl
   rename_i cs
   dsimp only
   split
   · cases aggSV ((cs.drop off).take i.size) <;> rfl
   · cases cs[off]? <;> rfl
 · rename_i k sz n j
   dsimp only
   cases σ.o k <;> try rfl
   rename_i ob
   cases ob <;> try rfl
   rename_i rows
   dsimp only
   cases rows[n]? <;> try rfl
   rename_i r
   simp only [optP]
   split <;> try rfl
   cases r[j]? <;> rfl
end
theorem mm_ok (f : Int → Int → Int) (x y : SV) (K : SV → Prop) : (match [x, y] with | [.sh (.val (.int k a)), .sh (.val (.int k' b))] => k = k' ∧ K (.sh (.val (.int k (f a b)))) | _ => False) = mmV f x y K := by
 unfold mmV
 split
 · rename_i h; injection h with h1 h2; injection h2 with h2; subst h1; subst h2; rfl
 · rename_i h
   split
   · exact (h _ _ _ _ rfl).elim
   · rfl
theorem e_max (E : Env) (σ : St) (d : Option Tmp) (K : SV → St → Prop) (x y : Operand) (ts : Array TypeId) : epop E d (.call { callee := .builtin .max, args := #[x, y], argTypes := ts }) σ K = mmV max (σ.ev E x) (σ.ev E y) fun x => K x σ := mm_ok max _ _ fun x => K x σ
theorem e_min (E : Env) (σ : St) (d : Option Tmp) (K : SV → St → Prop) (x y : Operand) (ts : Array TypeId) : epop E d (.call { callee := .builtin .min, args := #[x, y], argTypes := ts }) σ K = mmV min (σ.ev E x) (σ.ev E y) fun x => K x σ := mm_ok min _ _ fun x => K x σ
theorem b_add (E : Env) (T : Nat) (k : IntKind) (a b : Int) (K : Value → Prop) : binV E .add T (.sh (.val (.int k a))) (.sh (.val (.int k b))) K = K (.int k (k.wrap (a + b))) := by simp [binV, isShift, binP]
theorem b_sub (E : Env) (T : Nat) (k : IntKind) (a b : Int) (K : Value → Prop) : binV E .sub T (.sh (.val (.int k a))) (.sh (.val (.int k b))) K = K (.int k (k.wrap (a - b))) := by simp [binV, isShift, binP]
theorem b_mul (E : Env) (T : Nat) (k : IntKind) (a b : Int) (K : Value → Prop) : binV E .mul T (.sh (.val (.int k a))) (.sh (.val (.int k b))) K = K (.int k (k.wrap (a * b))) := by simp [binV, isShift, binP]
theorem b_quo (E : Env) (T : Nat) (k : IntKind) (a b : Int) (K : Value → Prop) : binV E .quo T (.sh (.val (.int k a))) (.sh (.val (.int k b))) K = (b ≠ 0 ∧ K (.int k (k.wrap (a.tdiv b)))) := by simp [binV, isShift, binP]
theorem b_rem (E : Env) (T : Nat) (k : IntKind) (a b : Int) (K : Value → Prop) : binV E .rem T (.sh (.val (.int k a))) (.sh (.val (.int k b))) K = (b ≠ 0 ∧ K (.int k (a.tmod b))) := by simp [binV, isShift, binP]
theorem b_and (E : Env) (T : Nat) (k : IntKind) (a b : Int) (K : Value → Prop) : binV E .and T (.sh (.val (.int k a))) (.sh (.val (.int k b))) K = K (.int k (k.wrap (BitVec.ofInt k.bits a &&& BitVec.ofInt k.bits b).toNat)) := by simp [binV, isShift, binP]
theorem b_or (E : Env) (T : Nat) (k : IntKind) (a b : Int) (K : Value → Prop) : binV E .or T (.sh (.val (.int k a))) (.sh (.val (.int k b))) K = K (.int k (k.wrap (BitVec.ofInt k.bits a ||| BitVec.ofInt k.bits b).toNat)) := by simp [binV, isShift, binP]
theorem b_xor (E : Env) (T : Nat) (k : IntKind) (a b : Int) (K : Value → Prop) : binV E .xor T (.sh (.val (.int k a))) (.sh (.val (.int k b))) K = K (.int k (k.wrap (BitVec.ofInt k.bits a ^^^ BitVec.ofInt k.bits b).toNat)) := by simp [binV, isShift, binP]
theorem b_eql (E : Env) (T : Nat) (k : IntKind) (a b : Int) (K : Value → Prop) : binV E .eql T (.sh (.val (.int k a))) (.sh (.val (.int k b))) K = K (.bool (a == b)) := by simp [binV, isShift, binP]
theorem b_neq (E : Env) (T : Nat) (k : IntKind) (a b : Int) (K : Value → Prop) : binV E .neq T (.sh (.val (.int k a))) (.sh (.val (.int k b))) K = K (.bool (a != b)) := by simp [binV, isShift, binP]
theorem b_lss (E : Env) (T : Nat) (k : IntKind) (a b : Int) (K : Value → Prop) : binV E .lss T (.sh (.val (.int k a))) (.sh (.val (.int k b))) K = K (.bool (decide (a < b))) := by simp [binV, isShift, binP]
theorem b_leq (E : Env) (T : Nat) (k : IntKind) (a b : Int) (K : Value → Prop) : binV E .leq T (.sh (.val (.int k a))) (.sh (.val (.int k b))) K = K (.bool (decide (a ≤ b))) := by simp [binV, isShift, binP]
theorem b_gtr (E : Env) (T : Nat) (k : IntKind) (a b : Int) (K : Value → Prop) : binV E .gtr T (.sh (.val (.int k a))) (.sh (.val (.int k b))) K = K (.bool (decide (a > b))) := by simp [binV, isShift, binP]
theorem b_geq (E : Env) (T : Nat) (k : IntKind) (a b : Int) (K : Value → Prop) : binV E .geq T (.sh (.val (.int k a))) (.sh (.val (.int k b))) K = K (.bool (decide (a ≥ b))) := by simp [binV, isShift, binP]
theorem b_shl (E : Env) (T : Nat) (k k' : IntKind) (a b : Int) (K : Value → Prop) : binV E .shl T (.sh (.val (.int k a))) (.sh (.val (.int k' b))) K = (0 ≤ b ∧ K (.int k (k.wrap (a * 2 ^ (min b.toNat k.bits))))) := by simp [binV, isShift, binS]
theorem b_shr (E : Env) (T : Nat) (k k' : IntKind) (a b : Int) (K : Value → Prop) : binV E .shr T (.sh (.val (.int k a))) (.sh (.val (.int k' b))) K = (0 ≤ b ∧ K (.int k (a.fdiv (2 ^ (min b.toNat k.bits))))) := by simp [binV, isShift, binS]
theorem b_eqb (T : Nat) (a b : Bool) (K : Value → Prop) : binV E .eql 4 (.sh (.val (.bool a))) (.sh (.val (.bool b))) K = K (.bool (a == b)) := by simp [binV, TT]
theorem b_neb (T : Nat) (a b : Bool) (K : Value → Prop) : binV E .neq 4 (.sh (.val (.bool a))) (.sh (.val (.bool b))) K = K (.bool (!(a == b))) := by simp [binV, TT]
theorem c_conv (k k' : IntKind) (n : Int) (K : Value → Prop) : convV (some (.int k)) true (.sh (.val (.int k' n))) K = K (.int k (k.wrap n)) := by simp [convV]
theorem laid_eqs : True := by
 have := @pickV.eq_def; have := @pickV.eq_1
 have := @unV.eq_def; have := @unV.eq_1
 have := @convV.eq_def; have := @convV.eq_1
 have := @nilV.eq_def; have := @nilV.eq_1
 have := @lenV.eq_def; have := @lenV.eq_1
 have := @mmV.eq_def; have := @mmV.eq_1
 have := @extV.eq_def; have := @extV.eq_1
 have := @loadV.eq_def; have := @loadV.eq_1
 have := @pplV.eq_def; have := @pplV.eq_1
 have := @fldV.eq_def; have := @fldV.eq_1
 have := @ixaV.eq_def; have := @ixaV.eq_1
 have := @callV.eq_def; have := @callV.eq_1
 have := @boxV.eq_def; have := @boxV.eq_1
 have := @allV.eq_def; have := @allV.eq_1
 have := @stoV.eq_def; have := @stoV.eq_1
 have := @bslV.eq_def; have := @bslV.eq_1
 have := @mslV.eq_def; have := @mslV.eq_1
 have := @mfnV.eq_def; have := @mfnV.eq_1
 have := @appV.eq_def; have := @appV.eq_1
 trivial
end Go.Pw
