/- Merged from the working texts PwY PwZ. -/
import Derived.Test.YtkflegdaeienlaaGreatDoorKc20
set_option linter.all false
set_option maxHeartbeats 400000
set_option maxRecDepth 100000
set_option linter.unusedVariables false
set_option linter.unusedSimpArgs false
namespace Go.Pw
open Go Go.Proofs
section
variable (E : Env) (σ : St) (K : SV → Prop)
theorem q_move (x : Operand) : ppop E (.move x) σ K = K (σ.ev E x) := rfl
theorem q_assign (x : Operand) : ppop E (.assign x) σ K = K (σ.ev E x) := rfl
theorem q_pick (c a b : Operand) : ppop E (.pick c a b) σ K = pickV (σ.ev E c) (σ.ev E a) (σ.ev E b) K := rfl
theorem q_bin (op : BinOp) (T : Nat) (x y : Operand) (T' : Nat) : ppop E (.binOp op T x y T') σ K = binV E op T (σ.ev E x) (σ.ev E y) fun v => K (.sh (.val v)) := rfl
theorem q_un (op : UnOp) (T : Nat) (x : Operand) : ppop E (.unOp op T x) σ K = unV op (σ.ev E x) fun v => K (.sh (.val v)) := rfl
theorem q_conv (s t : Nat) (x : Operand) : ppop E (.convert s t x) σ K = convV (E.P.underlying t) (E.P.underlying s).isSome (σ.ev E x) fun v => K (.sh (.val v)) := rfl
theorem q_nil (x : Operand) : ppop E (.nilCheck x) σ K = nilV (σ.ev E x) K := rfl
theorem q_len (x : Operand) (t : Nat) : ppop E (.call { callee := .builtin .len, args := #[x], argTypes := #[t] }) σ K = lenV (E.P.underlying t) (E.tt t) σ (σ.ev E x) K := rfl
theorem q_ext (x : Operand) (i : Nat) : ppop E (.extract x i) σ K = extV (σ.ev E x) i K := rfl
theorem q_fld (T : Nat) (x : Operand) (f : Nat) : ppop E (.fieldAddr T x f) σ K = fldV E (E.tt T) f (σ.ev E x) K := rfl
theorem q_ixa (T : Nat) (x ix : Operand) : ppop E (.indexAddr T x ix) σ K = ixaV E (E.tt T) σ (σ.ev E x) (σ.ev E ix) K := rfl
theorem q_call (f : Operand) (args : Array Operand) (ts : Array TypeId) : ppop E (.call { callee := .value f, args := args, argTypes := ts }) σ K = callV E true σ (σ.ev E f) args.toList fun d τ => K (.sh d) := rfl
theorem q_load (T : Nat) (a : Operand) : ppop E (.load T a) σ K = pplV (E.tt T) (σ.ev E a) σ K := e_ppl E σ K T a
theorem q_build (T : Nat) (parts : Array (Nat × Operand)) : ppop E (.build T parts) σ K = buildP E true σ T parts.toList fun d τ => K (.sh d) := rfl
theorem q_slice (T : Nat) (x : Operand) (lo hi : Option Operand) : ppop E (.slice T x lo hi none) σ K = sliceP E true σ T x lo hi fun d τ => K (.sh d) := rfl
theorem q_fie (T : Nat) (x : Operand) (f : Nat) : ppop E (.field T x f) σ K = fieV E (E.tt T) f (σ.ev E x) K := rfl
theorem q_lkp (T : Nat) (x ix : Operand) : ppop E (.lookup T x ix false) σ K = lkpV E (E.P.underlying T) σ (σ.ev E x) (σ.ev E ix) K := by
 simp only [ppop, lkpV, true_and]
 refine propext ⟨?_, ?_⟩
 · rintro ⟨kt, et, ie, h1, h2, h3, h4, h5⟩
   rw [h1]; simp only [h3]; exact ⟨h2, h4, h5⟩
 · intro h
   split at h
   · rename_i kt et hu
     obtain ⟨h1, h2⟩ := h
     split at h2
     · rename_i ie hie
       exact ⟨kt, et, ie, hu, h1, hie, h2.1, h2.2⟩
     · exact h2.elim
   · exact h.elim
theorem q_bsl (T len : Nat) (parts : Array (Nat × Operand)) : ppop E (.buildSlice T len parts) σ K = litV E σ (E.tt T) len (parts.toList.map (·.1)) (parts.toList.map (·.2)) fun d => K (.sh d) := rfl
theorem q_app (s x : Operand) (t : Nat) : ppop E (.call { callee := .builtin .append, args := #[s, x], argTypes := #[t, t] }) σ K = addV E σ (E.tt t) (σ.ev E s) (σ.ev E x) fun d => K (.sh d) := by
 simp only [ppop, addP, true_and]
 rfl
theorem q_msl (T : Nat) (l c : Operand) : ppop E (.makeSlice T l c) σ K = mkP E (E.tt T) (σ.ev E l) (σ.ev E c) fun d => K (.sh d) := rfl
theorem q_mfn (g : Nat) (first : Array Operand) (caps : Array Operand) : ppop E (.makeFunc (.func g) first caps) σ K = (first.size = 0 ∧ capsQ (caps.toList.map (σ.ev E)) fun l => K (.sh (.fn g l))) := rfl
end
theorem q_max (E : Env) (σ : St) (K : SV → Prop) (x y : Operand) (ts : Array TypeId) : ppop E (.call { callee := .builtin .max, args := #[x, y], argTypes := ts }) σ K = mmV max (σ.ev E x) (σ.ev E y) K := mm_ok max _ _ K
theorem q_min (E : Env) (σ : St) (K : SV → Prop) (x y : Operand) (ts : Array TypeId) : ppop E (.call { callee := .builtin .min, args := #[x, y], argTypes := ts }) σ K = mmV min (σ.ev E x) (σ.ev E y) K := mm_ok min _ _ K
def sub : List (Nat × SV) → List (Nat × SV) → Prop
 | [], _ => True
 | (k, x) :: r, e => getS e k = x ∧ sub r e
def subO : List (Nat × Option Ob) → List (Nat × Option Ob) → Prop
 | [], _ => True
 | (k, x) :: r, o => getO o k = x ∧ subO r o
theorem sub_get : ∀ {e' e : List (Nat × SV)}, sub e' e → ∀ t, getS e' t = getS e t ∨ getS e' t = .sh .any
 | [], _, _, t => .inr rfl
 | (k, x) :: r, e, h, t => by
   simp only [getS]
   split
   · rename_i hk; subst hk; exact .inl h.1.symm
   · exact sub_get h.2 t
theorem subO_get : ∀ {o' o : List (Nat × Option Ob)}, subO o' o → ∀ t, getO o' t = getO o t ∨ getO o' t = none
 | [], _, _, t => .inr rfl
 | (k, x) :: r, e, h, t => by
   simp only [getO]
   split
   · rename_i hk; subst hk; exact .inl h.1.symm
   · exact subO_get h.2 t
theorem Weak.list {E : Env} {e e' : List (Nat × SV)} {o o' : List (Nat × Option Ob)} (h : sub e' e) (h' : subO o' o) : Weak E (mkS e o) (mkS e' o') :=
 Weak.forget (fun t => sub_get h t) (fun k => subO_get h' k)
section
variable {E : Env} {α : Type} (e : α → List (Nat × SV)) (o : α → List (Nat × Option Ob)) (μ : α → Nat) (P : α → Prop)
def LI (m : Nat) (τ : St) : Prop := ∃ a, μ a = m ∧ P a ∧ τ = mkS (e a) (o a)
theorem p_loopx {c : Code} {Q : Exit → St → Prop} {e0 : List (Nat × SV)} {o0 : List (Nat × Option Ob)} (a0 : α) (hw : Weak E (mkS e0 o0) (mkS (e a0) (o a0))) (h0 : P a0) (h : ∀ a, P a → pwp E c (lq E (LI e o μ P) (μ a) Q) (mkS (e a) (o a))) : pwp E (.loop c) Q (mkS e0 o0) := by
 refine p_loop (LI e o μ P) (μ a0) _ hw ⟨a0, rfl, h0, rfl⟩ ?_
 rintro m τ ⟨a, rfl, hP, rfl⟩
 exact h a hP
theorem p_lx {Q : Exit → St → Prop} {m : Nat} {e1 : List (Nat × SV)} {o1 : List (Nat × Option Ob)} (a' : α) (hμ : μ a' < m) (hP : P a') (hw : Weak E (mkS e1 o1) (mkS (e a') (o a'))) : lq E (LI e o μ P) m Q .normal (mkS e1 o1) := ⟨μ a', _, hμ, hw, a', rfl, hP, rfl⟩
end
theorem con_of2 {E : Env} (hmix : E.P.follows .mixedOrders = true) {f : FuncId} {fn : Func} {c : Code} {args : List PV} {d : PV} {rs : List ResultVar} (hf : E.P.funcs[f]? = some fn) (hname : (fn.name == "runtime.NumGoroutine") = false) (hb : fn.body = some c) (hok : codeOk fn.ntmps c = true)
    (hargs : decide (args.length ≤ fn.ntmps) = true) (hrs : fn.results.toList = rs) (hp : pwp E c (rq E rs d) (mkS (argE 0 args) [])) : Con E f args d :=
  con_of' hmix hf hname hb hok hargs (by rw [hrs]; exact hp)
section
variable (xs : List Nat) (σ : St) (K : SV → Prop) (k : IntKind) (n : Int) (s b : Nat) (z : List Value)
end
theorem ix_row (E : Env) (σ : St) (K : SV → Prop) (k : IntKind) (n : Int) (s b e : Nat) (z : List Value) (r : Nat) : ixaV E (some { size := s, bytes := b, zero := z, kind := .sl e }) σ (.row r) (.sh (.val (.int k n))) K = match E.tt e with
   | some ie => match σ.o r with
     | some (.rw _ sz rows) => 0 ≤ n ∧ n.toNat < rows.length ∧ sz = ie.size ∧ K (.rp r sz n.toNat 0)
     | _ => False
   | none => False := rfl
theorem ix_ar (E : Env) (σ : St) (K : SV → Prop) (k : IntKind) (n : Int) (s b e len : Nat) (z : List Value) (x : SV) : ixaV E (some { size := s, bytes := b, zero := z, kind := .ar len e }) σ x (.sh (.val (.int k n))) K = match E.tt e with
   | some ie => 0 ≤ n ∧ n < (len : Int) ∧ match x with
     | .bp k off => K (.bp k (off + n.toNat * ie.size))
     | .sh (.ea ds) => n.toNat * ie.size < ds.length ∧ K (.sh (.ea (ds.drop (n.toNat * ie.size))))
     | _ => False
   | none => False := rfl
theorem res1 (E : Env) (t : Nat) (e : List (Nat × SV)) (o : List (Nat × Option Ob)) (d : PV) : rq E [.tmp t] d .ret (mkS e o) = withSh false (mkS e o) (getS e t) fun d' _ => d' = d := rfl
theorem ws_sl (q : Bool) (σ : St) (rows : List (List PV)) (K : PV → St → Prop) : withSh q σ (.sh (.sl rows)) K = K (.sl rows) σ := rfl
theorem ws_int (q : Bool) (σ : St) (k : IntKind) (n : Int) (K : PV → St → Prop) : withSh q σ (.sh (.val (.int k n))) K = K (.val (.int k n)) σ := rfl
theorem ws_bool (q : Bool) (σ : St) (b : Bool) (K : PV → St → Prop) : withSh q σ (.sh (.val (.bool b))) K = K (.val (.bool b)) σ := rfl
theorem ws_nil (q : Bool) (σ : St) (K : PV → St → Prop) : withSh q σ (.sh (.val (.slice none 0 0))) K = K (.sl []) σ := rfl
theorem ws_agg (q : Bool) (σ : St) (ds : List PV) (K : PV → St → Prop) : withSh q σ (.sh (.agg ds)) K = K (.agg (ds.map PV.nz1)) σ := rfl
theorem nz_int (k : IntKind) (n : Int) : PV.nz1 (.val (.int k n)) = .val (.int k n) := rfl
theorem nz_bool (b : Bool) : PV.nz1 (.val (.bool b)) = .val (.bool b) := rfl
theorem nz_nil : PV.nz1 (.val (.slice none 0 0)) = .sl [] := rfl
theorem nz_sl (r : List (List PV)) : PV.nz1 (.sl r) = .sl r := rfl
theorem nz_fn (g : Nat) (l : List PV) : PV.nz1 (.fn g l) = .fn g l := rfl
theorem nz_ea (l : List PV) : PV.nz1 (.ea l) = .ea l := rfl
theorem nz_any : PV.nz1 .any = .any := rfl
theorem ws_ea (q : Bool) (σ : St) (ds : List PV) (K : PV → St → Prop) : withSh q σ (.sh (.ea ds)) K = K (.ea ds) σ := rfl
theorem ws_fn (q : Bool) (σ : St) (g : Nat) (ds : List PV) (K : PV → St → Prop) : withSh q σ (.sh (.fn g ds)) K = K (.fn g ds) σ := rfl
theorem ws_tup (q : Bool) (σ : St) (ds : List PV) (K : PV → St → Prop) : withSh q σ (.sh (.tup ds)) K = K (.tup ds) σ := rfl
theorem ws_row (q : Bool) (σ : St) (k : Nat) (K : PV → St → Prop) : withSh q σ (.row k) K = match σ.o k with
   | some (.rw _ _ rows) => q = false ∧ allSh rows = true ∧ K (.sl (unSR rows)) (σ.share k (unSR rows))
   | _ => False := rfl
theorem wss_nil (E : Env) (q : Bool) (σ : St) (K : List PV → St → Prop) : withShs E q σ [] K = K [] σ := rfl
theorem wss_cons (E : Env) (q : Bool) (σ : St) (x : Operand) (xs : List Operand) (K : List PV → St → Prop) : withShs E q σ (x :: xs) K = withSh q σ (σ.ev E x) fun d τ => withShs E q τ xs fun ds υ => K (d :: ds) υ := rfl
theorem opt_some {α : Type} (a : α) (K : α → Prop) : optP (some a) K = K a := rfl
theorem opt_none {α : Type} (K : α → Prop) : optP none K = False := rfl
theorem set_N (l : List Nat) (n : Nat) (r : List SV) (hr : r.length = 1) (v : Int) (hv : 0 ≤ v) : (SR (l.map fun (x : Nat) => [.val (.int .u32 (x : Int))])).set n (splice r 0 [.sh (.val (.int .u32 v))]) = SR ((l.set n v.toNat).map fun (x : Nat) => [.val (.int .u32 (x : Int))]) := by
 have : splice r 0 [.sh (.val (.int .u32 v))] = ([.val (.int .u32 (v.toNat : Nat))] : List PV).map .sh := by
   match r, hr with
   | [x], _ => simp [splice]; omega
 rw [this, SR_set, List.map_set]
theorem rep_N (n : Nat) : List.replicate n [PV.val (.int .u32 0)] = (List.replicate n 0).map fun (x : Nat) => [PV.val (.int .u32 (x : Int))] := by simp
theorem app_N (l : List Nat) (v : Int) (hv : 0 ≤ v) : (l.map fun (x : Nat) => [PV.val (.int .u32 (x : Int))]) ++ [[PV.val (.int .u32 v)]] = (l ++ [v.toNat]).map fun (x : Nat) => [PV.val (.int .u32 (x : Int))] := by
 simp; omega
theorem take_m {α β : Type} (f : α → β) (l : List α) (n : Nat) : (l.map f).take n = (l.take n).map f := List.map_take.symm
theorem drop_m {α β : Type} (f : α → β) (l : List α) (n : Nat) : (l.map f).drop n = (l.drop n).map f := List.map_drop.symm
theorem rng1 : ([0] = List.range 1) = True := by simp [List.range_succ]
theorem rng2 : ([0, 1] = List.range 2) = True := by simp [List.range_succ]
theorem rng3 : ([0, 1, 2] = List.range 3) = True := by simp [List.range_succ]
theorem rng4 : ([0, 1, 2, 3] = List.range 4) = True := by simp [List.range_succ]
theorem maxN_eq : maxN = 140737488355328 := rfl
theorem one_int (k : IntKind) (n : Int) : PV.one (.val (.int k n)) = true := rfl
theorem one_bool (b : Bool) : PV.one (.val (.bool b)) = true := rfl
theorem one_sl (l : List (List PV)) : PV.one (.sl l) = true := rfl
theorem one_ea (l : List PV) : PV.one (.ea l) = true := rfl
theorem one_nil : PV.one (.val (.slice none 0 0)) = true := rfl
theorem sone_sh (d : PV) : SV.one (.sh d) = d.one := rfl
theorem sone_row (k : Nat) : SV.one (.row k) = true := rfl
theorem sone_bp (k o : Nat) : SV.one (.bp k o) = true := rfl
theorem cells_int (k : IntKind) (n : Int) : SV.cells (.sh (.val (.int k n))) = some [.sh (.val (.int k n))] := rfl
theorem cells_bool (b : Bool) : SV.cells (.sh (.val (.bool b))) = some [.sh (.val (.bool b))] := rfl
theorem cells_nil : SV.cells (.sh (.val (.slice none 0 0))) = some [.sh (.val (.slice none 0 0))] := rfl
theorem cells_sl (l : List (List PV)) : SV.cells (.sh (.sl l)) = some [.sh (.sl l)] := rfl
theorem cells_ea (l : List PV) : SV.cells (.sh (.ea l)) = some [.sh (.ea l)] := rfl
theorem cells_agg (ds : List PV) : SV.cells (.sh (.agg ds)) = some (ds.map .sh) := rfl
theorem cells_row (k : Nat) : SV.cells (.row k) = some [.row k] := rfl
theorem cells_bp (k o : Nat) : SV.cells (.bp k o) = some [.bp k o] := rfl
theorem cells_fn (g : Nat) (l : List PV) : SV.cells (.sh (.fn g l)) = some [.sh (.fn g l)] := rfl
theorem pcells_int (k : IntKind) (n : Int) : PV.cells (.val (.int k n)) = some [.val (.int k n)] := rfl
theorem pcells_bool (b : Bool) : PV.cells (.val (.bool b)) = some [.val (.bool b)] := rfl
theorem pcells_nil : PV.cells (.val (.slice none 0 0)) = some [.val (.slice none 0 0)] := rfl
theorem pcells_sl (l : List (List PV)) : PV.cells (.sl l) = some [.sl l] := rfl
theorem pcells_ea (l : List PV) : PV.cells (.ea l) = some [.ea l] := rfl
theorem pcells_agg (ds : List PV) : PV.cells (.agg ds) = some ds := rfl
section
variable {E : Env} {σ : St} {ops : Array Oper} {K : St → Prop}
end
theorem int_eq {k : IntKind} {a b : Int} (h : a = b) : SV.sh (.val (.int k a)) = .sh (.val (.int k b)) := by rw [h]
theorem rw_eq {α : Type} {e sz : Nat} {f : α → List PV} {l l' : List α} (h : l = l') : some (Ob.rw e sz (SR (l.map f))) = some (Ob.rw e sz (SR (l'.map f))) := by rw [h]
theorem sl_eq' {α : Type} {f : α → List PV} {l l' : List α} (h : l = l') : SV.sh (.sl (l.map f)) = SV.sh (.sl (l'.map f)) := by rw [h]
theorem set_N1 (l : List Nat) (n : Nat) (v : Int) (hv : 0 ≤ v) : (SR (l.map fun (x : Nat) => [.val (.int .u32 (x : Int))])).set n [.sh (.val (.int .u32 v))] = SR ((l.set n v.toNat).map fun (x : Nat) => [.val (.int .u32 (x : Int))]) := by
 have : [SV.sh (.val (.int .u32 v))] = ([.val (.int .u32 (v.toNat : Nat))] : List PV).map .sh := by simp; omega
 rw [this, SR_set, List.map_set]
theorem set_I1 (l : List Int) (n : Nat) (v : Int) : (SR (l.map fun (x : Int) => [.val (.int .i64 x)])).set n [.sh (.val (.int .i64 v))] = SR ((l.set n v).map fun (x : Int) => [.val (.int .i64 x)]) := by
 have : [SV.sh (.val (.int .i64 v))] = ([.val (.int .i64 v)] : List PV).map .sh := rfl
 rw [this, SR_set, List.map_set]
theorem set_B1 (l : List Bool) (n : Nat) (v : Bool) : (SR (l.map fun (x : Bool) => [.val (.bool x)])).set n [.sh (.val (.bool v))] = SR ((l.set n v).map fun (x : Bool) => [.val (.bool x)]) := by
 have : [SV.sh (.val (.bool v))] = ([.val (.bool v)] : List PV).map .sh := rfl
 rw [this, SR_set, List.map_set]
theorem rep_I (n : Nat) (v : Int) : List.replicate n [PV.val (.int .i64 v)] = (List.replicate n v).map fun (x : Int) => [PV.val (.int .i64 x)] := by simp
theorem rep_B (n : Nat) (v : Bool) : List.replicate n [PV.val (.bool v)] = (List.replicate n v).map fun (x : Bool) => [PV.val (.bool x)] := by simp
theorem app_I (l : List Int) (v : Int) : (l.map fun (x : Int) => [PV.val (.int .i64 x)]) ++ [[PV.val (.int .i64 v)]] = (l ++ [v]).map fun (x : Int) => [PV.val (.int .i64 x)] := by simp
theorem app_B (l : List Bool) (v : Bool) : (l.map fun (x : Bool) => [PV.val (.bool x)]) ++ [[PV.val (.bool v)]] = (l ++ [v]).map fun (x : Bool) => [PV.val (.bool x)] := by simp
theorem res2 (E : Env) (t u : Nat) (e : List (Nat × SV)) (o : List (Nat × Option Ob)) (d : PV) : rq E [.tmp t, .tmp u] d .ret (mkS e o) = withSh false (mkS e o) (getS e t) fun d1 τ => withSh false τ (τ.s u) fun d2 _ => .tup [d1, d2] = d := rfl
theorem res3 (E : Env) (t u v : Nat) (e : List (Nat × SV)) (o : List (Nat × Option Ob)) (d : PV) : rq E [.tmp t, .tmp u, .tmp v] d .ret (mkS e o) = withSh false (mkS e o) (getS e t) fun d1 τ => withSh false τ (τ.s u) fun d2 τ => withSh false τ (τ.s v) fun d3 _ => .tup [d1, d2, d3] = d := rfl
theorem Weak.nil {E : Env} {e : List (Nat × SV)} {o : List (Nat × Option Ob)} (k : Nat) (h : getS e k = .sh (.val (.slice none 0 0))) : Weak E (mkS e o) (mkS ((k, .sh (.sl [])) :: e) o) := fun w0 A0 a w loc hi => by
 have hv : a.tmps.getD k undef = .slice none 0 0 := by have := hi.iS k; rw [mkS_s, h] at this; exact this.val_eq
 exact ⟨loc, hi.slot (by rw [hv]; exact .sh (.nilsl none 0 (fun _ => rfl))), fun _ _ => rfl⟩
end Go.Pw
set_option maxRecDepth 100000
set_option linter.unusedVariables false
set_option linter.unusedSimpArgs false
namespace Go.Pw
open Go Go.Proofs
instance : Inhabited Rt := ⟨⟨0, false, [], []⟩⟩
instance : Inhabited Tm := ⟨⟨[], default⟩⟩
instance : Inhabited Py := ⟨⟨0, []⟩⟩
instance : Inhabited Qt := ⟨⟨default, default⟩⟩
instance : Inhabited Sp := ⟨⟨0, 0, 0, default⟩⟩
def sliV (E : Env) (q : Bool) (i : Option TI) (σ : St) (x : SV) (lo hi : Option Operand) (K : PV → St → Prop) : Prop := match i with
 | some i => match i.kind with
   | .sl e => withSh q σ x fun d τ => match d with
     | .sl rows => (∃ ie, E.tt e = some ie ∧ ∀ r ∈ rows, r.length = ie.size) ∧ match lo.map (τ.ev E), hi.map (τ.ev E) with
       | none, none => K (.sl rows) τ
       | some (.sh (.val (.int _ l))), none => 0 ≤ l ∧ l.toNat ≤ rows.length ∧ K (.sl (rows.drop l.toNat)) τ
       | none, some (.sh (.val (.int _ h))) => 0 ≤ h ∧ h.toNat ≤ rows.length ∧ K (.sl (rows.take h.toNat)) τ
       | some (.sh (.val (.int _ l))), some (.sh (.val (.int _ h))) => 0 ≤ l ∧ l ≤ h ∧ h.toNat ≤ rows.length ∧ K (.sl ((rows.take h.toNat).drop l.toNat)) τ
       | _, _ => False
     | _ => False
   | _ => False
 | none => False
theorem sl_eq (E : Env) (q : Bool) (σ : St) (T : Nat) (x : Operand) (lo hi : Option Operand) (K : PV → St → Prop) : sliceP E q σ T x lo hi K = sliV E q (E.tt T) σ (σ.ev E x) lo hi K := rfl
theorem laid_eqs2 : True := by
 have := @sliV.eq_def; have := @sliV.eq_1
 trivial
section
variable {α : Type} (f : α → List PV) (xs : List α) (z0 : α)
theorem ix_gen (e : Nat) (ie : TI) (he : E.tt e = some ie) (hf : ∀ x, (f x).length = ie.size) (σ : St) (K : SV → Prop) (k : IntKind) (n : Int) (s b : Nat) (z : List Value) :
   ixaV E (some { size := s, bytes := b, zero := z, kind := .sl e }) σ (.sh (.sl (xs.map f))) (.sh (.val (.int k n))) K = (0 ≤ n ∧ n < xs.length ∧ K (.sh (.ea (f (xs.getD n.toNat z0))))) := by
 simp only [ixaV, he, List.getElem?_map]
 refine propext (and_congr_right fun h0 => ⟨?_, ?_⟩)
 · rintro ⟨r, h1, h2, h3⟩
   obtain ⟨x, hx, rfl⟩ := Option.map_eq_some_iff.1 h1
   have := (List.getElem?_eq_some_iff.1 hx).1
   exact ⟨by omega, by rw [List.getD_eq_getElem?_getD, hx]; exact h3⟩
 · rintro ⟨h1, h2⟩
   have hl : n.toNat < xs.length := by omega
   refine ⟨_, by rw [List.getElem?_eq_getElem hl]; rfl, hf _, ?_⟩
   rw [List.getD_eq_getElem?_getD, List.getElem?_eq_getElem hl] at h2
   exact h2
theorem op_gen (n : Nat) (K : List SV → Prop) : optP (SR (xs.map f))[n]? K = (n < xs.length ∧ K ((f (xs.getD n z0)).map .sh)) := by
 simp only [SR_get, List.getElem?_map]
 by_cases h : n < xs.length
 · simp [h, List.getElem?_eq_getElem h, optP, List.getD_eq_getElem?_getD]
 · simp [h, List.getElem?_eq_none (Nat.le_of_not_lt h), optP]
theorem sl_gen (e : Nat) (ie : TI) (he : E.tt e = some ie) (hf : ∀ x, (f x).length = ie.size) (q : Bool) (σ : St) (K : PV → St → Prop) (s b : Nat) (z : List Value) (lo hi : Option Operand) :
   sliV E q (some { size := s, bytes := b, zero := z, kind := .sl e }) σ (.sh (.sl (xs.map f))) lo hi K = match lo.map (σ.ev E), hi.map (σ.ev E) with
       | none, none => K (.sl (xs.map f)) σ
       | some (.sh (.val (.int _ l))), none => 0 ≤ l ∧ l.toNat ≤ xs.length ∧ K (.sl ((xs.drop l.toNat).map f)) σ
       | none, some (.sh (.val (.int _ h))) => 0 ≤ h ∧ h.toNat ≤ xs.length ∧ K (.sl ((xs.take h.toNat).map f)) σ
       | some (.sh (.val (.int _ l))), some (.sh (.val (.int _ h))) => 0 ≤ l ∧ l ≤ h ∧ h.toNat ≤ xs.length ∧ K (.sl (((xs.take h.toNat).drop l.toNat).map f)) σ
       | _, _ => False := by
 have hex : (∃ ie, E.tt e = some ie ∧ ∀ r ∈ xs.map f, r.length = ie.size) := ⟨ie, he, fun r hr => by obtain ⟨x, _, rfl⟩ := List.mem_map.1 hr; exact hf x⟩
 simp only [sliV, ws_sl, hex, true_and, List.length_map, take_m, drop_m]
end
theorem ix_1N (xs : List (Nat)) (σ : St) (K : SV → Prop) (k : IntKind) (n : Int) (s b : Nat) (z : List Value) : ixaV E (some { size := s, bytes := b, zero := z, kind := .sl 103 }) σ (.sh (.sl (xs.map (fun (x : Nat) => [PV.val (.int .u32 (x : Int))])))) (.sh (.val (.int k n))) K = (0 ≤ n ∧ n < xs.length ∧ K (.sh (.ea ((fun (x : Nat) => [PV.val (.int .u32 (x : Int))]) (xs.getD n.toNat 0))))) := ix_gen (fun (x : Nat) => [PV.val (.int .u32 (x : Int))]) xs 0 103 _ rfl (fun _ => rfl) σ K k n s b z
theorem op_1N (xs : List (Nat)) (n : Nat) (K : List SV → Prop) : optP (SR (xs.map (fun (x : Nat) => [PV.val (.int .u32 (x : Int))])))[n]? K = (n < xs.length ∧ K (((fun (x : Nat) => [PV.val (.int .u32 (x : Int))]) (xs.getD n 0)).map .sh)) := op_gen (fun (x : Nat) => [PV.val (.int .u32 (x : Int))]) xs 0 n K
theorem sl_1N (xs : List (Nat)) (q : Bool) (σ : St) (K : PV → St → Prop) (s b : Nat) (z : List Value) (lo hi : Option Operand) : sliV E q (some { size := s, bytes := b, zero := z, kind := .sl 103 }) σ (.sh (.sl (xs.map (fun (x : Nat) => [PV.val (.int .u32 (x : Int))])))) lo hi K = match lo.map (σ.ev E), hi.map (σ.ev E) with
   | none, none => K (.sl (xs.map (fun (x : Nat) => [PV.val (.int .u32 (x : Int))]))) σ
   | some (.sh (.val (.int _ l))), none => 0 ≤ l ∧ l.toNat ≤ xs.length ∧ K (.sl ((xs.drop l.toNat).map (fun (x : Nat) => [PV.val (.int .u32 (x : Int))]))) σ
   | none, some (.sh (.val (.int _ h))) => 0 ≤ h ∧ h.toNat ≤ xs.length ∧ K (.sl ((xs.take h.toNat).map (fun (x : Nat) => [PV.val (.int .u32 (x : Int))]))) σ
   | some (.sh (.val (.int _ l))), some (.sh (.val (.int _ h))) => 0 ≤ l ∧ l ≤ h ∧ h.toNat ≤ xs.length ∧ K (.sl (((xs.take h.toNat).drop l.toNat).map (fun (x : Nat) => [PV.val (.int .u32 (x : Int))]))) σ
   | _, _ => False := sl_gen (fun (x : Nat) => [PV.val (.int .u32 (x : Int))]) xs 103 _ rfl (fun _ => rfl) q σ K s b z lo hi
theorem ix_1I (xs : List (Int)) (σ : St) (K : SV → Prop) (k : IntKind) (n : Int) (s b : Nat) (z : List Value) : ixaV E (some { size := s, bytes := b, zero := z, kind := .sl 3 }) σ (.sh (.sl (xs.map (fun (x : Int) => [PV.val (.int .i64 x)])))) (.sh (.val (.int k n))) K = (0 ≤ n ∧ n < xs.length ∧ K (.sh (.ea ((fun (x : Int) => [PV.val (.int .i64 x)]) (xs.getD n.toNat 0))))) := ix_gen (fun (x : Int) => [PV.val (.int .i64 x)]) xs 0 3 _ rfl (fun _ => rfl) σ K k n s b z
theorem op_1I (xs : List (Int)) (n : Nat) (K : List SV → Prop) : optP (SR (xs.map (fun (x : Int) => [PV.val (.int .i64 x)])))[n]? K = (n < xs.length ∧ K (((fun (x : Int) => [PV.val (.int .i64 x)]) (xs.getD n 0)).map .sh)) := op_gen (fun (x : Int) => [PV.val (.int .i64 x)]) xs 0 n K
theorem sl_1I (xs : List (Int)) (q : Bool) (σ : St) (K : PV → St → Prop) (s b : Nat) (z : List Value) (lo hi : Option Operand) : sliV E q (some { size := s, bytes := b, zero := z, kind := .sl 3 }) σ (.sh (.sl (xs.map (fun (x : Int) => [PV.val (.int .i64 x)])))) lo hi K = match lo.map (σ.ev E), hi.map (σ.ev E) with
   | none, none => K (.sl (xs.map (fun (x : Int) => [PV.val (.int .i64 x)]))) σ
   | some (.sh (.val (.int _ l))), none => 0 ≤ l ∧ l.toNat ≤ xs.length ∧ K (.sl ((xs.drop l.toNat).map (fun (x : Int) => [PV.val (.int .i64 x)]))) σ
   | none, some (.sh (.val (.int _ h))) => 0 ≤ h ∧ h.toNat ≤ xs.length ∧ K (.sl ((xs.take h.toNat).map (fun (x : Int) => [PV.val (.int .i64 x)]))) σ
   | some (.sh (.val (.int _ l))), some (.sh (.val (.int _ h))) => 0 ≤ l ∧ l ≤ h ∧ h.toNat ≤ xs.length ∧ K (.sl (((xs.take h.toNat).drop l.toNat).map (fun (x : Int) => [PV.val (.int .i64 x)]))) σ
   | _, _ => False := sl_gen (fun (x : Int) => [PV.val (.int .i64 x)]) xs 3 _ rfl (fun _ => rfl) q σ K s b z lo hi
theorem ix_1E (xs : List (Int)) (σ : St) (K : SV → Prop) (k : IntKind) (n : Int) (s b : Nat) (z : List Value) : ixaV E (some { size := s, bytes := b, zero := z, kind := .sl 29 }) σ (.sh (.sl (xs.map (fun (x : Int) => [PV.val (.int .i64 x)])))) (.sh (.val (.int k n))) K = (0 ≤ n ∧ n < xs.length ∧ K (.sh (.ea ((fun (x : Int) => [PV.val (.int .i64 x)]) (xs.getD n.toNat 0))))) := ix_gen (fun (x : Int) => [PV.val (.int .i64 x)]) xs 0 29 _ rfl (fun _ => rfl) σ K k n s b z
theorem ix_1B (xs : List (Bool)) (σ : St) (K : SV → Prop) (k : IntKind) (n : Int) (s b : Nat) (z : List Value) : ixaV E (some { size := s, bytes := b, zero := z, kind := .sl 4 }) σ (.sh (.sl (xs.map (fun (x : Bool) => [PV.val (.bool x)])))) (.sh (.val (.int k n))) K = (0 ≤ n ∧ n < xs.length ∧ K (.sh (.ea ((fun (x : Bool) => [PV.val (.bool x)]) (xs.getD n.toNat false))))) := ix_gen (fun (x : Bool) => [PV.val (.bool x)]) xs false 4 _ rfl (fun _ => rfl) σ K k n s b z
theorem op_1B (xs : List (Bool)) (n : Nat) (K : List SV → Prop) : optP (SR (xs.map (fun (x : Bool) => [PV.val (.bool x)])))[n]? K = (n < xs.length ∧ K (((fun (x : Bool) => [PV.val (.bool x)]) (xs.getD n false)).map .sh)) := op_gen (fun (x : Bool) => [PV.val (.bool x)]) xs false n K
theorem ix_1R (xs : List (Rt)) (σ : St) (K : SV → Prop) (k : IntKind) (n : Int) (s b : Nat) (z : List Value) : ixaV E (some { size := s, bytes := b, zero := z, kind := .sl 80 }) σ (.sh (.sl (xs.map (cR)))) (.sh (.val (.int k n))) K = (0 ≤ n ∧ n < xs.length ∧ K (.sh (.ea ((cR) (xs.getD n.toNat default))))) := ix_gen (cR) xs default 80 _ rfl (fun _ => rfl) σ K k n s b z
theorem op_1R (xs : List (Rt)) (n : Nat) (K : List SV → Prop) : optP (SR (xs.map (cR)))[n]? K = (n < xs.length ∧ K (((cR) (xs.getD n default)).map .sh)) := op_gen (cR) xs default n K
theorem sl_1R (xs : List (Rt)) (q : Bool) (σ : St) (K : PV → St → Prop) (s b : Nat) (z : List Value) (lo hi : Option Operand) : sliV E q (some { size := s, bytes := b, zero := z, kind := .sl 80 }) σ (.sh (.sl (xs.map (cR)))) lo hi K = match lo.map (σ.ev E), hi.map (σ.ev E) with
   | none, none => K (.sl (xs.map (cR))) σ
   | some (.sh (.val (.int _ l))), none => 0 ≤ l ∧ l.toNat ≤ xs.length ∧ K (.sl ((xs.drop l.toNat).map (cR))) σ
   | none, some (.sh (.val (.int _ h))) => 0 ≤ h ∧ h.toNat ≤ xs.length ∧ K (.sl ((xs.take h.toNat).map (cR))) σ
   | some (.sh (.val (.int _ l))), some (.sh (.val (.int _ h))) => 0 ≤ l ∧ l ≤ h ∧ h.toNat ≤ xs.length ∧ K (.sl (((xs.take h.toNat).drop l.toNat).map (cR))) σ
   | _, _ => False := sl_gen (cR) xs 80 _ rfl (fun _ => rfl) q σ K s b z lo hi
theorem ix_1RR (xs : List (List Rt)) (σ : St) (K : SV → Prop) (k : IntKind) (n : Int) (s b : Nat) (z : List Value) : ixaV E (some { size := s, bytes := b, zero := z, kind := .sl 26 }) σ (.sh (.sl (xs.map (fun (r : List Rt) => [cRs r])))) (.sh (.val (.int k n))) K = (0 ≤ n ∧ n < xs.length ∧ K (.sh (.ea ((fun (r : List Rt) => [cRs r]) (xs.getD n.toNat []))))) := ix_gen (fun (r : List Rt) => [cRs r]) xs [] 26 _ rfl (fun _ => rfl) σ K k n s b z
theorem op_1RR (xs : List (List Rt)) (n : Nat) (K : List SV → Prop) : optP (SR (xs.map (fun (r : List Rt) => [cRs r])))[n]? K = (n < xs.length ∧ K (((fun (r : List Rt) => [cRs r]) (xs.getD n [])).map .sh)) := op_gen (fun (r : List Rt) => [cRs r]) xs [] n K
theorem sl_1RR (xs : List (List Rt)) (q : Bool) (σ : St) (K : PV → St → Prop) (s b : Nat) (z : List Value) (lo hi : Option Operand) : sliV E q (some { size := s, bytes := b, zero := z, kind := .sl 26 }) σ (.sh (.sl (xs.map (fun (r : List Rt) => [cRs r])))) lo hi K = match lo.map (σ.ev E), hi.map (σ.ev E) with
   | none, none => K (.sl (xs.map (fun (r : List Rt) => [cRs r]))) σ
   | some (.sh (.val (.int _ l))), none => 0 ≤ l ∧ l.toNat ≤ xs.length ∧ K (.sl ((xs.drop l.toNat).map (fun (r : List Rt) => [cRs r]))) σ
   | none, some (.sh (.val (.int _ h))) => 0 ≤ h ∧ h.toNat ≤ xs.length ∧ K (.sl ((xs.take h.toNat).map (fun (r : List Rt) => [cRs r]))) σ
   | some (.sh (.val (.int _ l))), some (.sh (.val (.int _ h))) => 0 ≤ l ∧ l ≤ h ∧ h.toNat ≤ xs.length ∧ K (.sl (((xs.take h.toNat).drop l.toNat).map (fun (r : List Rt) => [cRs r]))) σ
   | _, _ => False := sl_gen (fun (r : List Rt) => [cRs r]) xs 26 _ rfl (fun _ => rfl) q σ K s b z lo hi
theorem ix_1T (xs : List (Tm)) (σ : St) (K : SV → Prop) (k : IntKind) (n : Int) (s b : Nat) (z : List Value) : ixaV E (some { size := s, bytes := b, zero := z, kind := .sl 115 }) σ (.sh (.sl (xs.map (cT)))) (.sh (.val (.int k n))) K = (0 ≤ n ∧ n < xs.length ∧ K (.sh (.ea ((cT) (xs.getD n.toNat default))))) := ix_gen (cT) xs default 115 _ rfl (fun _ => rfl) σ K k n s b z
theorem op_1T (xs : List (Tm)) (n : Nat) (K : List SV → Prop) : optP (SR (xs.map (cT)))[n]? K = (n < xs.length ∧ K (((cT) (xs.getD n default)).map .sh)) := op_gen (cT) xs default n K
theorem ix_1Q (xs : List (Qt)) (σ : St) (K : SV → Prop) (k : IntKind) (n : Int) (s b : Nat) (z : List Value) : ixaV E (some { size := s, bytes := b, zero := z, kind := .sl 48 }) σ (.sh (.sl (xs.map (cQ)))) (.sh (.val (.int k n))) K = (0 ≤ n ∧ n < xs.length ∧ K (.sh (.ea ((cQ) (xs.getD n.toNat default))))) := ix_gen (cQ) xs default 48 _ rfl (fun _ => rfl) σ K k n s b z
theorem op_1Q (xs : List (Qt)) (n : Nat) (K : List SV → Prop) : optP (SR (xs.map (cQ)))[n]? K = (n < xs.length ∧ K (((cQ) (xs.getD n default)).map .sh)) := op_gen (cQ) xs default n K
theorem sl_1Q (xs : List (Qt)) (q : Bool) (σ : St) (K : PV → St → Prop) (s b : Nat) (z : List Value) (lo hi : Option Operand) : sliV E q (some { size := s, bytes := b, zero := z, kind := .sl 48 }) σ (.sh (.sl (xs.map (cQ)))) lo hi K = match lo.map (σ.ev E), hi.map (σ.ev E) with
   | none, none => K (.sl (xs.map (cQ))) σ
   | some (.sh (.val (.int _ l))), none => 0 ≤ l ∧ l.toNat ≤ xs.length ∧ K (.sl ((xs.drop l.toNat).map (cQ))) σ
   | none, some (.sh (.val (.int _ h))) => 0 ≤ h ∧ h.toNat ≤ xs.length ∧ K (.sl ((xs.take h.toNat).map (cQ))) σ
   | some (.sh (.val (.int _ l))), some (.sh (.val (.int _ h))) => 0 ≤ l ∧ l ≤ h ∧ h.toNat ≤ xs.length ∧ K (.sl (((xs.take h.toNat).drop l.toNat).map (cQ))) σ
   | _, _ => False := sl_gen (cQ) xs 48 _ rfl (fun _ => rfl) q σ K s b z lo hi
theorem ix_1QQ (xs : List (List Qt)) (σ : St) (K : SV → Prop) (k : IntKind) (n : Int) (s b : Nat) (z : List Value) : ixaV E (some { size := s, bytes := b, zero := z, kind := .sl 36 }) σ (.sh (.sl (xs.map (fun (r : List Qt) => [cQs r])))) (.sh (.val (.int k n))) K = (0 ≤ n ∧ n < xs.length ∧ K (.sh (.ea ((fun (r : List Qt) => [cQs r]) (xs.getD n.toNat []))))) := ix_gen (fun (r : List Qt) => [cQs r]) xs [] 36 _ rfl (fun _ => rfl) σ K k n s b z
theorem op_1QQ (xs : List (List Qt)) (n : Nat) (K : List SV → Prop) : optP (SR (xs.map (fun (r : List Qt) => [cQs r])))[n]? K = (n < xs.length ∧ K (((fun (r : List Qt) => [cQs r]) (xs.getD n [])).map .sh)) := op_gen (fun (r : List Qt) => [cQs r]) xs [] n K
theorem ix_1S (xs : List (Sp)) (σ : St) (K : SV → Prop) (k : IntKind) (n : Int) (s b : Nat) (z : List Value) : ixaV E (some { size := s, bytes := b, zero := z, kind := .sl 90 }) σ (.sh (.sl (xs.map (cS)))) (.sh (.val (.int k n))) K = (0 ≤ n ∧ n < xs.length ∧ K (.sh (.ea ((cS) (xs.getD n.toNat default))))) := ix_gen (cS) xs default 90 _ rfl (fun _ => rfl) σ K k n s b z
theorem op_1S (xs : List (Sp)) (n : Nat) (K : List SV → Prop) : optP (SR (xs.map (cS)))[n]? K = (n < xs.length ∧ K (((cS) (xs.getD n default)).map .sh)) := op_gen (cS) xs default n K
theorem ix_1NN (xs : List (List Nat)) (σ : St) (K : SV → Prop) (k : IntKind) (n : Int) (s b : Nat) (z : List Value) : ixaV E (some { size := s, bytes := b, zero := z, kind := .sl 78 }) σ (.sh (.sl (xs.map (fun (x : List Nat) => [cN x])))) (.sh (.val (.int k n))) K = (0 ≤ n ∧ n < xs.length ∧ K (.sh (.ea ((fun (x : List Nat) => [cN x]) (xs.getD n.toNat []))))) := ix_gen (fun (x : List Nat) => [cN x]) xs [] 78 _ rfl (fun _ => rfl) σ K k n s b z
theorem op_1NN (xs : List (List Nat)) (n : Nat) (K : List SV → Prop) : optP (SR (xs.map (fun (x : List Nat) => [cN x])))[n]? K = (n < xs.length ∧ K (((fun (x : List Nat) => [cN x]) (xs.getD n [])).map .sh)) := op_gen (fun (x : List Nat) => [cN x]) xs [] n K
theorem all_1N (xs : List (Nat)) : ((xs.map (fun (x : Nat) => [PV.val (.int .u32 (x : Int))])).all fun r => decide (r.length = 1) && r.all PV.one) = true := by
 rw [List.all_map, List.all_eq_true]; intro x _; rfl
theorem all_1I (xs : List (Int)) : ((xs.map (fun (x : Int) => [PV.val (.int .i64 x)])).all fun r => decide (r.length = 1) && r.all PV.one) = true := by
 rw [List.all_map, List.all_eq_true]; intro x _; rfl
theorem all_1B (xs : List (Bool)) : ((xs.map (fun (x : Bool) => [PV.val (.bool x)])).all fun r => decide (r.length = 1) && r.all PV.one) = true := by
 rw [List.all_map, List.all_eq_true]; intro x _; rfl
theorem all_1R (xs : List (Rt)) : ((xs.map (cR)).all fun r => decide (r.length = 4) && r.all PV.one) = true := by
 rw [List.all_map, List.all_eq_true]; intro x _; rfl
theorem all_1RR (xs : List (List Rt)) : ((xs.map (fun (r : List Rt) => [cRs r])).all fun r => decide (r.length = 1) && r.all PV.one) = true := by
 rw [List.all_map, List.all_eq_true]; intro x _; rfl
theorem all_1T (xs : List (Tm)) : ((xs.map (cT)).all fun r => decide (r.length = 5) && r.all PV.one) = true := by
 rw [List.all_map, List.all_eq_true]; intro x _; rfl
theorem all_1Q (xs : List (Qt)) : ((xs.map (cQ)).all fun r => decide (r.length = 4) && r.all PV.one) = true := by
 rw [List.all_map, List.all_eq_true]; intro x _; rfl
theorem all_1QQ (xs : List (List Qt)) : ((xs.map (fun (r : List Qt) => [cQs r])).all fun r => decide (r.length = 1) && r.all PV.one) = true := by
 rw [List.all_map, List.all_eq_true]; intro x _; rfl
theorem all_1S (xs : List (Sp)) : ((xs.map (cS)).all fun r => decide (r.length = 7) && r.all PV.one) = true := by
 rw [List.all_map, List.all_eq_true]; intro x _; rfl
theorem all_1NN (xs : List (List Nat)) : ((xs.map (fun (x : List Nat) => [cN x])).all fun r => decide (r.length = 1) && r.all PV.one) = true := by
 rw [List.all_map, List.all_eq_true]; intro x _; rfl
theorem rng0 : ([] = List.range 0) = True := by simp
end Go.Pw
