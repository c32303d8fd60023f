/- Merged from the working texts PxC. -/
import Derived.Test.YtkflegdaeienlaaGreatDoorKc19
set_option linter.all false
set_option maxHeartbeats 400000
set_option maxRecDepth 100000
set_option linter.unusedVariables false
set_option linter.unusedSimpArgs false
namespace Go.Pw
open Go.RowKit
def intT (t : Nat) : Option IntKind := match t with
 | 3 => some .i64 | 29 => some .i64 | 5 => some .u8 | 51 => some .u64 | 136 => some .u64 | 103 => some .u32 | _ => none
theorem intT_ok {t : Nat} {k : IntKind} (h : intT t = some k) : E.P.underlying t = some (.int k) := by
 unfold intT at h
 split at h
 · injection h with h; subst h; exact UU.1
 · injection h with h; subst h; exact UU.2.2.2.2.2.1
 · injection h with h; subst h; exact UU.2.1
 · injection h with h; subst h; exact UU.2.2.1
 · injection h with h; subst h; exact UU.2.2.2.2.1
 · injection h with h; subst h; exact UU.2.2.2.1
 · cases h
def mapT (t : Nat) : Bool := Nat.beq t 196
theorem mapT_ok {t : Nat} (h : mapT t = true) : E.P.underlying t = some (.map 9 176) := by
 have : t = 196 := by simpa [mapT] using h
 subst this; exact UU.2.2.2.2.2.2.1
def strT (t : Nat) : Bool := Nat.beq t 9
theorem strT_ok {t : Nat} (h : strT t = true) : E.P.underlying t = some .string := by
 have : t = 9 := by simpa [strT] using h
 subst this; exact UU.2.2.2.2.2.2.2
def mapOfC (c : CS) : SV → Option (List (ByteArray × PV))
 | .sh (.mp ds) => some ds
 | .mr k => match aget c.o k with
   | some (.mp ds) => some ds
   | _ => none
 | _ => none
theorem mapOf_st (c : CS) (x : SV) : mapOf c.st x = mapOfC c x := by
 cases x with
 | sh d => cases d <;> rfl
 | mr k =>
   simp only [mapOf, mapOfC, st_o]
   rcases aget c.o k with _ | ⟨_ | _ | _ | _⟩ <;> rfl
 | _ => rfl
def cellsOk (sz : Nat) (x : PV) : Bool := match x.cells with | some cs => decide (cs.length = sz) && cs.all PV.one | none => false
def loadC (T : Nat) (x : SV) (c : CS) : Option SV := match tt T with
 | some i => match x with
   | .bp k off => match aget c.o k with
     | some (.box cs) => cond i.kind.agg (if off + i.size ≤ cs.length then aggSV ((cs.drop off).take i.size) else none) cs[off]?
     | _ => none
   | .rp k sz n j => match aget c.o k with
     | some (.rw _ sz' rows) => if sz' = sz then match rows[n]? with
       | some r => cond i.kind.agg (if j + i.size ≤ r.length ∧ ((r.drop j).take i.size).all SV.isSh = true then some (.sh (.agg (((r.drop j).take i.size).map SV.unsh))) else none) r[j]?
       | none => none else none
     | _ => none
   | .sh (.ea ds) => cond i.kind.agg (if i.size ≤ ds.length then some (.sh (.agg (ds.take i.size))) else none) (ds[0]?.map .sh)
   | _ => none
 | none => none
def idxC (T : Nat) (ix x : SV) (c : CS) : Option SV := match tt T with
 | some i => match ix with
   | .sh (.val (.int k n)) => match i.kind with
     | .sl e => match tt e with
       | some ie => match x with
         | .sh (.sl rows) => if 0 ≤ n then match rows[n.toNat]? with
           | some r => if r.length = ie.size then some (.sh (.ea r)) else none
           | none => none else none
         | .row k => match aget c.o k with
           | some (.rw _ sz rows) => if 0 ≤ n ∧ n.toNat < rows.length ∧ sz = ie.size then some (.rp k sz n.toNat 0) else none
           | _ => none
         | .sub k sz i m => if 0 ≤ n ∧ n.toNat < m ∧ sz = ie.size then some (.rp k sz (i + n.toNat) 0) else none
         | _ => none
       | none => none
     | .ar len e => match tt e with
       | some ie => if 0 ≤ n ∧ n < (len : Int) then match x with
         | .bp k off => some (.bp k (off + n.toNat * ie.size))
         | .sh (.ea ds) => if n.toNat * ie.size < ds.length then some (.sh (.ea (ds.drop (n.toNat * ie.size)))) else none
         | _ => none else none
       | none => none
     | _ => none
   | _ => none
 | none => none
def fldAC (T : Nat) (x : SV) (f : Nat) : Option SV := match tt T with
 | some i => match i.kind with
   | .st fs => match fs[f]? with
     | some (o, ft) => cond (tt ft).isSome (match x with
       | .bp k off => some (.bp k (off + o))
       | .rp k sz i j => some (.rp k sz i (j + o))
       | .sh (.ea ds) => if o < ds.length then some (.sh (.ea (ds.drop o))) else none
       | _ => none) none
     | none => none
   | _ => none
 | none => none
def ixC (T : Nat) (ix x : SV) : Option SV := match tt T with
 | some i => match ix, i.kind, x with
   | .sh (.val (.int k n)), .ar len e, .sh (.agg ds) => match tt e with
     | some ie => if 0 ≤ n ∧ n < (len : Int) ∧ n.toNat * ie.size + ie.size ≤ ds.length then cond ie.kind.agg (some (.sh (.agg ((ds.drop (n.toNat * ie.size)).take ie.size)))) (ds[n.toNat * ie.size]?.map .sh) else none
     | none => none
   | .sh (.val (.int k n)), .ot, .sh (.val (.string s)) => cond (strT T) (if 0 ≤ n then s[n.toNat]?.map fun b => .sh (.val (.int .u8 b.toNat)) else none) none
   | _, _, _ => none
 | none => none
def fldC (T : Nat) (x : SV) (f : Nat) : Option SV := match tt T with
 | some i => match i.kind with
   | .st fs => match fs[f]? with
     | some (o, ft) => match tt ft with
       | some j => match x with
         | .sh (.agg ds) => if o + j.size ≤ ds.length then cond j.kind.agg (some (.sh (.agg ((ds.drop o).take j.size)))) (ds[o]?.map .sh) else none
         | .mg pre k => if j.kind.agg = false ∧ j.size = 1 then (if o = pre.length then some (.mr k) else pre[o]?.map .sh) else none
         | _ => none
       | none => none
     | none => none
   | _ => none
 | none => none
def lenC (t : Nat) (x : SV) (c : CS) : Option SV := match tt t with
 | some i => match i.kind with
   | .sl _ => match x with
     | .sh (.sl rows) => some (.sh (.val (.int .i64 rows.length)))
     | .sh (.val (.slice none 0 0)) => some (.sh (.val (.int .i64 0)))
     | .row k => match aget c.o k with
       | some (.rw _ _ rows) => some (.sh (.val (.int .i64 rows.length)))
       | _ => none
     | .sub _ _ _ n => some (.sh (.val (.int .i64 n)))
     | .sh .e0 => some (.sh (.val (.int .i64 0)))
     | _ => none
   | .ar n _ => some (.sh (.val (.int .i64 n)))
   | .ot => match x with
     | .sh (.val (.string s)) => cond (strT t) (some (.sh (.val (.int .i64 s.size)))) none
     | y => match mapOfC c y with
       | some ds => cond (mapT t) (some (.sh (.val (.int .i64 ds.length)))) none
       | none => none
   | _ => none
 | none => none
def litC (c : CS) (T len : Nat) (parts : List (Nat × Operand)) : Option PV := match tt T with
 | some i => match i.kind with
   | .sl e => match tt e with
     | some ie => if parts.map (·.1) = List.range len ∧ len * ie.size ≤ 2 ^ 24 then match shsC true c (parts.map (·.2)) with
         | some (ds, _) => cond (ds.all (cellsOk ie.size)) (some (cond ds.isEmpty .e0 (.sl (ds.map fun x => x.cells.getD [])))) none
         | none => none
       else none
     | none => none
   | _ => none
 | none => none
def mkC (T : Nat) (l c : SV) : Option PV := match tt T with
 | some i => match i.kind with
   | .sl e => match tt e with
     | some ie => match l, c with
       | .sh (.val (.int .i64 n)), .sh (.val (.int .i64 m)) => if n = m ∧ 0 ≤ n ∧ n.toNat * ie.bytes ≤ maxN ∧ n ≤ maxN then some (if n = 0 then .e0 else .sl (List.replicate n.toNat (ie.zero.map .val))) else none
       | _, _ => none
     | none => none
   | _ => none
 | none => none
def addC (c : CS) (args : List Operand) (ts : List Nat) : Option PV := match args, ts with
 | [s, x], [t, t'] => if t' = t then match tt t with
   | some i => match i.kind with
     | .sl e => match tt e with
       | some ie => match evC c s with
         | .sh .e0 => match shC true c (evC c x) with
           | some (.sl more, _) => if (more.all fun r => decide (r.length = ie.size) && r.all PV.one) = true ∧ more.length * ie.bytes ≤ maxN ∧ more.length ≤ maxN then some (.sl more) else none
           | _ => none
         | _ => none
       | none => none
     | _ => none
   | none => none else none
 | _, _ => none
def capsQC : List SV → Option (List PV)
 | [] => some []
 | x :: xs => match x with
   | .sh (.ea ds) => match capsQC xs with
     | some l => some (.ea ds :: l)
     | none => none
   | _ => none
def popC (cl : Nat → List PV → Option PV) (op : Op) (c : CS) : Option SV := match op with
 | .move x => some (evC c x)
 | .assign x => some (evC c x)
 | .pick q a b => match evC c q with
   | .sh (.val (.bool t)) => some (cond t (evC c a) (evC c b))
   | _ => none
 | .load T a => loadC T (evC c a) c
 | .nilCheck x => match evC c x with
   | .bp k off => some (.bp k off)
   | .rp k sz i j => some (.rp k sz i j)
   | .sh (.ea ds) => some (.sh (.ea ds))
   | .sh (.fn g cs) => some (.sh (.fn g cs))
   | _ => none
 | .binOp op T x y _ => match evC c x, evC c y with
   | .sh (.val (.int k a)), .sh (.val (.int k' b)) => cond (isShift op) ((binSC op k a b).map fun v => .sh (.val v)) (if k = k' then (binPC op k a b).map fun v => .sh (.val v) else none)
   | .sh (.val (.bool a)), .sh (.val (.bool b)) => cond (Nat.beq T 4) (match op with
     | .eql => some (.sh (.val (.bool (a == b))))
     | .neq => some (.sh (.val (.bool (!(a == b)))))
     | _ => none) none
   | _, _ => none
 | .unOp op _ x => match op, evC c x with
   | .not, .sh (.val (.bool b)) => some (.sh (.val (.bool !b)))
   | .neg, .sh (.val (.int k n)) => some (.sh (.val (.int k (k.wrap (0 - n)))))
   | _, _ => none
 | .convert s d x => match evC c x with
   | .sh (.val (.int _ n)) => match intT d, intT s with
     | some k, some _ => some (.sh (.val (.int k (k.wrap n))))
     | _, _ => none
   | _ => none
 | .fieldAddr T x f => fldAC T (evC c x) f
 | .indexAddr T x ix => idxC T (evC c ix) (evC c x) c
 | .index T x ix => ixC T (evC c ix) (evC c x)
 | .field T x f => fldC T (evC c x) f
 | .lookup T x ix cm => cond cm none (cond (mapT T) (match tt 176, mapOfC c (evC c x), evC c ix with
   | some ie, some ds, .sh (.val (.string s)) => if 2 ≤ ie.size then some (.sh (mget (zeroPV ie) s ds)) else none
   | _, _, _ => none) none)
 | .buildSlice T len parts => (litC c T len parts.toList).map .sh
 | .makeSlice T l m => (mkC T (evC c l) (evC c m)).map .sh
 | .makeFunc (.func g) first caps => if first.size = 0 then (capsQC (caps.toList.map (evC c))).map fun l => .sh (.fn g l) else none
 | .extract x i => match evC c x with
   | .sh (.tup vs) => vs[i]?.map .sh
   | _ => none
 | .call k => match k.callee with
   | .builtin .len => match k.argTypes[0]?, k.args[0]? with
     | some t, some x => lenC t (evC c x) c
     | _, _ => none
   | .builtin .append => (addC c k.args.toList k.argTypes.toList).map .sh
   | .builtin .max => match k.args.toList.map (evC c) with
     | [.sh (.val (.int k a)), .sh (.val (.int k' b))] => if k = k' then some (.sh (.val (.int k (max a b)))) else none
     | _ => none
   | .builtin .min => match k.args.toList.map (evC c) with
     | [.sh (.val (.int k a)), .sh (.val (.int k' b))] => if k = k' then some (.sh (.val (.int k (min a b)))) else none
     | _ => none
   | .value f => match evC c f with
     | .sh (.fn g caps) => match shsC true c k.args.toList with
       | some (ds, _) => match cl g (ds ++ caps) with
         | some d => some (.sh d)
         | none => none
       | none => none
     | _ => none
   | _ => none
 | .build T parts => match buildPC true c T parts.toList with
   | some (d, _) => some (.sh d)
   | none => none
 | .slice T x lo hi none => match sliceC true c T x lo hi with
   | some (d, _) => some (.sh d)
   | none => none
 | _ => none
theorem maps_st (c : CS) (l : List Operand) : l.map (c.st.ev E) = l.map (evC c) := List.map_congr_left fun x _ => ev_st c x
theorem loadC_sound {T : Nat} {a : Operand} {c : CS} {x : SV} (h : loadC T (evC c a) c = some x) {K : SV → Prop} (hK : K x) : ppop E (.load T a) c.st K := by
 unfold loadC at h
 simp only [ppop, E_tt, ev_st, st_o]
 split at h
 · rename_i i hi
   simp only [hi]
   split at h
   · rename_i k off ea
     simp only [ea]
     split at h
     · rename_i cs ho
       simp only [ho]
       cases hg : i.kind.agg with
       | true =>
         rw [hg] at h
         simp only [cond_true] at h
         simp only [if_true]
         split at h
         · rename_i hc
           exact ⟨hc, by rw [h]; exact hK⟩
         · cases h
       | false =>
         rw [hg] at h
         simp only [cond_false] at h
         simp only [Bool.false_eq_true, if_false, h]
         exact hK
     · cases h
   · rename_i k sz n j ea
     simp only [ea]
     split at h
     · rename_i e sz' rows ho
       simp only [ho]
       split at h
       · rename_i hs
         refine ⟨hs, ?_⟩
         split at h
         · rename_i r hr
           simp only [hr]
           cases hg : i.kind.agg with
           | true =>
             rw [hg] at h
             simp only [cond_true] at h
             simp only [if_true]
             split at h
             · rename_i hc
               injection h with h; subst h
               exact ⟨hc.1, hc.2, hK⟩
             · cases h
           | false =>
             rw [hg] at h
             simp only [cond_false] at h
             simp only [Bool.false_eq_true, if_false, h]
             exact hK
         · cases h
       · cases h
     · cases h
   · rename_i ds ea
     simp only [ea]
     cases hg : i.kind.agg with
     | true =>
       rw [hg] at h
       simp only [cond_true] at h
       simp only [if_true]
       split at h
       · rename_i hc
         injection h with h; subst h
         exact ⟨hc, hK⟩
       · cases h
     | false =>
       rw [hg] at h
       simp only [cond_false] at h
       simp only [Bool.false_eq_true, if_false]
       obtain ⟨d, hd, rfl⟩ := Option.map_eq_some_iff.1 h
       simp only [hd]
       exact hK
   · cases h
 · cases h
theorem idxC_sound {T : Nat} {x ix : Operand} {c : CS} {y : SV} (h : idxC T (evC c ix) (evC c x) c = some y) {K : SV → Prop} (hK : K y) : ppop E (.indexAddr T x ix) c.st K := by
 unfold idxC at h
 simp only [ppop, E_tt, ev_st, st_o]
 split at h
 · rename_i i hi
   simp only [hi]
   split at h
   · rename_i k n eix
     simp only [eix]
     split at h
     · rename_i e hk
       simp only [hk]
       split at h
       · rename_i ie hie
         simp only [hie]
         split at h
         · rename_i rows ex
           simp only [ex]
           split at h
           · rename_i h0
             split at h
             · rename_i r hr
               split at h
               · rename_i hl
                 injection h with h; subst h
                 exact ⟨h0, r, hr, hl, hK⟩
               · cases h
             · cases h
           · cases h
         · rename_i k' ex
           simp only [ex]
           split at h
           · rename_i e' sz rows ho
             simp only [ho]
             split at h
             · rename_i hc
               injection h with h; subst h
               exact ⟨hc.1, hc.2.1, hc.2.2, hK⟩
             · cases h
           · cases h
         · rename_i k' sz i' m ex
           simp only [ex]
           split at h
           · rename_i hc
             injection h with h; subst h
             exact ⟨hc.1, hc.2.1, hc.2.2, hK⟩
           · cases h
         · cases h
       · cases h
     · rename_i len e hk
       simp only [hk]
       split at h
       · rename_i ie hie
         simp only [hie]
         split at h
         · rename_i hc
           refine ⟨hc.1, hc.2, ?_⟩
           split at h
           · rename_i k' off ex
             simp only [ex]
             injection h with h; subst h; exact hK
           · rename_i ds ex
             simp only [ex]
             split at h
             · rename_i hc2
               injection h with h; subst h; exact ⟨hc2, hK⟩
             · cases h
           · cases h
         · cases h
       · cases h
     · cases h
   · cases h
 · cases h
theorem fldAC_sound {T : Nat} {x : Operand} {f : Nat} {c : CS} {y : SV} (h : fldAC T (evC c x) f = some y) {K : SV → Prop} (hK : K y) : ppop E (.fieldAddr T x f) c.st K := by
 unfold fldAC at h
 simp only [ppop, E_tt, ev_st]
 split at h
 · rename_i i hi
   simp only [hi]
   split at h
   · rename_i fs hk
     simp only [hk]
     split at h
     · rename_i o ft hf
       simp only [hf]
       cases hs : (tt ft).isSome with
       | false => rw [hs] at h; cases h
       | true =>
         rw [hs] at h
         simp only [cond_true] at h
         refine ⟨rfl, ?_⟩
         split at h
         · rename_i ex; simp only [ex]; injection h with h; subst h; exact hK
         · rename_i ex; simp only [ex]; injection h with h; subst h; exact hK
         · rename_i ex; simp only [ex]
           split at h
           · rename_i hc; injection h with h; subst h; exact ⟨hc, hK⟩
           · cases h
         · cases h
     · cases h
   · cases h
 · cases h
theorem ixC_sound {T : Nat} {x ix : Operand} {c : CS} {y : SV} (h : ixC T (evC c ix) (evC c x) = some y) {K : SV → Prop} (hK : K y) : ppop E (.index T x ix) c.st K := by
 unfold ixC at h
 simp only [ppop, E_tt, ev_st]
 split at h
 · rename_i i hi
   simp only [hi]
   split at h
   · rename_i k n len e ds e1 e2 e3
     simp only [e1, e2, e3]
     split at h
     · rename_i ie hie
       simp only [hie]
       split at h
       · rename_i hc
         refine ⟨hc.1, hc.2.1, hc.2.2, ?_⟩
         cases hg : ie.kind.agg with
         | true =>
           rw [hg] at h
           simp only [cond_true] at h
           injection h with h; subst h
           simpa using hK
         | false =>
           rw [hg] at h
           simp only [cond_false] at h
           simp only [Bool.false_eq_true, if_false]
           obtain ⟨d, hd, rfl⟩ := Option.map_eq_some_iff.1 h
           simp only [hd]; exact hK
       · cases h
     · cases h
   · rename_i k n s e1 e2 e3
     simp only [e1, e2, e3]
     cases hs : strT T with
     | false => rw [hs] at h; cases h
     | true =>
       rw [hs] at h
       simp only [cond_true] at h
       split at h
       · rename_i h0
         obtain ⟨b, hb, rfl⟩ := Option.map_eq_some_iff.1 h
         exact ⟨strT_ok hs, h0, b, hb, hK⟩
       · cases h
   · cases h
 · cases h
theorem fldC_sound {T : Nat} {x : Operand} {f : Nat} {c : CS} {y : SV} (h : fldC T (evC c x) f = some y) {K : SV → Prop} (hK : K y) : ppop E (.field T x f) c.st K := by
 unfold fldC at h
 simp only [ppop, E_tt, ev_st]
 split at h
 · rename_i i hi
   simp only [hi]
   split at h
   · rename_i fs hk
     simp only [hk]
     split at h
     · rename_i o ft hf
       simp only [hf]
       split at h
       · rename_i j hj
         simp only [hj]
         split at h
         · rename_i ds ex
           simp only [ex]
           split at h
           · rename_i hc
             refine ⟨hc, ?_⟩
             cases hg : j.kind.agg with
             | true =>
               rw [hg] at h
               simp only [cond_true] at h
               injection h with h; subst h
               simpa using hK
             | false =>
               rw [hg] at h
               simp only [cond_false] at h
               simp only [Bool.false_eq_true, if_false]
               obtain ⟨d, hd, rfl⟩ := Option.map_eq_some_iff.1 h
               simp only [hd]; exact hK
           · cases h
         · rename_i pre k ex
           simp only [ex]
           split at h
           · rename_i hc
             refine ⟨hc.1, hc.2, ?_⟩
             split at h
             · rename_i he
               injection h with h; subst h
               rw [if_pos he]; exact hK
             · rename_i he
               rw [if_neg he]
               obtain ⟨d, hd, rfl⟩ := Option.map_eq_some_iff.1 h
               simp only [hd]; exact hK
           · cases h
         · cases h
       · cases h
     · cases h
   · cases h
 · cases h
theorem lenC_sound {k : Call} {t : Nat} {x : Operand} {c : CS} {y : SV} (hc : k.callee = .builtin .len) (ht : k.argTypes[0]? = some t) (hx : k.args[0]? = some x) (h : lenC t (evC c x) c = some y) {K : SV → Prop} (hK : K y) : ppop E (.call k) c.st K := by
 unfold lenC at h
 simp only [ppop, hc, ht, hx, E_tt, ev_st, st_o]
 split at h
 · rename_i i hi
   simp only [hi]
   split at h
   · rename_i e hk
     simp only [hk]
     split at h
     · rename_i ex; simp only [ex]; injection h with h; subst h; exact hK
     · rename_i ex; simp only [ex]; injection h with h; subst h; exact hK
     · rename_i ex; simp only [ex]
       split at h
       · rename_i ho; simp only [ho]; injection h with h; subst h; exact hK
       · cases h
     · rename_i ex; simp only [ex]; injection h with h; subst h; exact hK
     · rename_i ex; simp only [ex]; injection h with h; subst h; exact hK
     · cases h
   · rename_i hk
     simp only [hk]
     injection h with h; subst h; exact hK
   · rename_i hk
     simp only [hk]
     split at h
     · rename_i s ex
       simp only [ex]
       cases hs : strT t with
       | false => rw [hs] at h; cases h
       | true =>
         rw [hs] at h
         injection h with h; subst h
         exact ⟨strT_ok hs, hK⟩
     · rename_i y' hne
       split
       · rename_i s es; exact (hne s es).elim
       · rw [mapOf_st]
         split at h
         · rename_i ds hd
           simp only [hd]
           cases hm : mapT t with
           | false => rw [hm] at h; cases h
           | true =>
             rw [hm] at h
             injection h with h; subst h
             exact ⟨⟨9, 176, mapT_ok hm⟩, hK⟩
         · cases h
   · cases h
 · cases h
theorem litC_sound {T len : Nat} {parts : List (Nat × Operand)} {c : CS} {d : PV} (h : litC c T len parts = some d) {K : PV → Prop} (hK : K d) : litP E c.st T len parts K := by
 unfold litC at h
 unfold litP
 rw [E_tt]
 split at h
 · rename_i i hi
   simp only [hi]
   split at h
   · rename_i e hk
     simp only [hk]
     split at h
     · rename_i ie hie
       simp only [hie]
       split at h
       · rename_i hc
         refine ⟨hc.1, hc.2, ?_⟩
         split at h
         · rename_i ds c1 h1
           cases ha : ds.all (cellsOk ie.size) with
           | false => rw [ha] at h; cases h
           | true =>
             rw [ha] at h
             simp only [cond_true] at h
             injection h with h
             refine shsC_sound h1 ⟨ha, ?_⟩
             subst h
             cases ds with
             | nil => simpa using hK
             | cons y ys => simpa using hK
         · cases h
       · cases h
     · cases h
   · cases h
 · cases h
theorem mkC_sound {T : Nat} {l m : SV} {d : PV} (h : mkC T l m = some d) {K : PV → Prop} (hK : K d) : mkP E (E.tt T) l m K := by
 unfold mkC at h
 unfold mkP
 rw [E_tt]
 split at h
 · rename_i i hi
   simp only [hi]
   split at h
   · rename_i e hk
     simp only [hk]
     split at h
     · rename_i ie hie
       simp only [hie]
       split at h
       · split at h
         · rename_i hc
           injection h with h; subst h
           exact ⟨hc.1, hc.2.1, hc.2.2.1, hc.2.2.2, hK⟩
         · cases h
       · cases h
     · cases h
   · cases h
 · cases h
theorem addC_sound {c : CS} {args : List Operand} {ts : List Nat} {d : PV} (h : addC c args ts = some d) {K : PV → Prop} (hK : K d) : addP E c.st args ts K := by
 unfold addC at h
 unfold addP
 split at h
 · rename_i s x t t'
   split at h
   · rename_i ht
     refine ⟨ht, ?_⟩
     simp only [E_tt, ev_st]
     split at h
     · rename_i i hi
       simp only [hi]
       split at h
       · rename_i e hk
         simp only [hk]
         split at h
         · rename_i ie hie
           simp only [hie]
           split at h
           · rename_i es
             simp only [es]
             split at h
             · rename_i more c1 h1
               split at h
               · rename_i hc
                 injection h with h; subst h
                 exact shC_sound h1 ⟨hc.1, hc.2.1, hc.2.2, hK⟩
               · cases h
             · cases h
           · cases h
         · cases h
       · cases h
     · cases h
   · cases h
 · cases h
theorem capsQC_sound : ∀ {l : List SV} {ds : List PV}, capsQC l = some ds → ∀ {K : List PV → Prop}, K ds → capsQ l K
 | [], ds, h, K, hK => by injection h with h; subst h; exact hK
 | x :: xs, ds, h, K, hK => by
   simp only [capsQC] at h
   simp only [capsQ]
   split at h
   · rename_i ds1
     split at h
     · rename_i l hl
       injection h with h; subst h
       exact capsQC_sound hl hK
     · cases h
   · cases h
theorem popC_sound {cl : Nat → List PV → Option PV} (hcl : ∀ g vs d, cl g vs = some d → Con E g vs d) {op : Op} {c : CS} {x : SV} (h : popC cl op c = some x) {K : SV → Prop} (hK : K x) : ppop E op c.st K := by
 cases op with
 | move y => injection h with h; subst h; simpa only [ppop, ev_st] using hK
 | assign y => injection h with h; subst h; simpa only [ppop, ev_st] using hK
 | pick q a b =>
   simp only [popC] at h
   simp only [ppop, ev_st]
   split at h
   · rename_i t et
     simp only [et]
     injection h with h; subst h
     cases t
     · exact ⟨fun e => (by cases e), fun _ => hK⟩
     · exact ⟨fun _ => hK, fun e => (by cases e)⟩
   · cases h
 | load T a => exact loadC_sound h hK
 | nilCheck y =>
   simp only [popC] at h
   simp only [ppop, ev_st]
   split at h
   · rename_i e; simp only [e]; injection h with h; subst h; exact hK
   · rename_i e; simp only [e]; injection h with h; subst h; exact hK
   · rename_i e; simp only [e]; injection h with h; subst h; exact hK
   · rename_i e; simp only [e]; injection h with h; subst h; exact hK
   · cases h
 | binOp op T y z T' =>
   simp only [popC] at h
   simp only [ppop, ev_st]
   split at h
   · rename_i k a k' b e1 e2
     simp only [e1, e2]
     cases hs : isShift op with
     | true =>
       rw [hs] at h
       simp only [cond_true] at h
       obtain ⟨v, hv, rfl⟩ := Option.map_eq_some_iff.1 h
       simp only [if_true]
       exact binSC_sound hv hK
     | false =>
       rw [hs] at h
       simp only [cond_false] at h
       simp only [Bool.false_eq_true, if_false]
       split at h
       · rename_i hk
         obtain ⟨v, hv, rfl⟩ := Option.map_eq_some_iff.1 h
         exact ⟨hk, binPC_sound hv hK⟩
       · cases h
   · rename_i a b e1 e2
     simp only [e1, e2]
     cases hT : Nat.beq T 4 with
     | false => rw [hT] at h; cases h
     | true =>
       have hT' : T = 4 := by simpa using hT
       subst hT'
       rw [hT] at h
       simp only [cond_true] at h
       refine ⟨rfl, ?_⟩
       split at h
       · injection h with h; subst h; exact hK
       · injection h with h; subst h; exact hK
       · cases h
   · cases h
 | unOp op T y =>
   simp only [popC] at h
   simp only [ppop, ev_st]
   split at h
   · rename_i e; simp only [e]; injection h with h; subst h; exact hK
   · rename_i e; simp only [e]; injection h with h; subst h; exact hK
   · cases h
 | convert s d y =>
   simp only [popC] at h
   simp only [ppop, ev_st]
   split at h
   · rename_i e
     simp only [e]
     split at h
     · rename_i k k' h1 h2
       injection h with h; subst h
       exact ⟨k, intT_ok h1, by rw [intT_ok h2]; rfl, hK⟩
     · cases h
   · cases h
 | fieldAddr T y f => exact fldAC_sound h hK
 | indexAddr T y ix => exact idxC_sound h hK
 | index T y ix => exact ixC_sound h hK
 | field T y f => exact fldC_sound h hK
 | lookup T y ix cm =>
   simp only [popC] at h
   simp only [ppop, ev_st, mapOf_st]
   cases cm with
   | true => cases h
   | false =>
     simp only [cond_false] at h
     refine ⟨rfl, ?_⟩
     cases hm : mapT T with
     | false => rw [hm] at h; cases h
     | true =>
       rw [hm] at h
       simp only [cond_true] at h
       split at h
       · rename_i ie ds s h1 h2 h3
         split at h
         · rename_i hs
           injection h with h; subst h
           exact ⟨9, 176, ie, mapT_ok hm, UU.2.2.2.2.2.2.2, h1, hs, by simp only [h2, h3]; exact hK⟩
         · cases h
       · cases h
 | buildSlice T len parts =>
   simp only [popC] at h
   obtain ⟨d, hd, rfl⟩ := Option.map_eq_some_iff.1 h
   exact litC_sound (K := fun d => K (.sh d)) hd hK
 | makeSlice T l m =>
   simp only [popC] at h
   obtain ⟨d, hd, rfl⟩ := Option.map_eq_some_iff.1 h
   simp only [ppop, ev_st]
   exact mkC_sound (K := fun d => K (.sh d)) hd hK
 | makeFunc f first caps =>
   cases f with
   | func g =>
     simp only [popC] at h
     simp only [ppop, maps_st]
     split at h
     · rename_i h0
       obtain ⟨l, hl, rfl⟩ := Option.map_eq_some_iff.1 h
       exact ⟨h0, capsQC_sound hl hK⟩
     · cases h
   | _ => cases h
 | extract y i =>
   simp only [popC] at h
   simp only [ppop, ev_st]
   split at h
   · rename_i vs e
     simp only [e]
     obtain ⟨d, hd, rfl⟩ := Option.map_eq_some_iff.1 h
     simp only [hd]; exact hK
   · cases h
 | call k =>
   simp only [popC] at h
   split at h
   · rename_i hc
     split at h
     · rename_i t y ht hy
       exact lenC_sound hc ht hy h hK
     · cases h
   · rename_i hc
     obtain ⟨d, hd, rfl⟩ := Option.map_eq_some_iff.1 h
     simp only [ppop, hc]
     exact addC_sound (K := fun d => K (.sh d)) hd hK
   · rename_i hc
     simp only [ppop, hc, maps_st]
     split at h
     · rename_i hm
       split at h
       · rename_i hk
         simp only [hm]
         injection h with h; subst h; exact ⟨hk, hK⟩
       · cases h
     · cases h
   · rename_i hc
     simp only [ppop, hc, maps_st]
     split at h
     · rename_i hm
       split at h
       · rename_i hk
         simp only [hm]
         injection h with h; subst h; exact ⟨hk, hK⟩
       · cases h
     · cases h
   · rename_i f hc
     simp only [ppop, hc, ev_st]
     split at h
     · rename_i g caps ef
       simp only [ef]
       split at h
       · rename_i ds c1 h1
         split at h
         · rename_i d hd
           injection h with h; subst h
           exact shsC_sound h1 ⟨d, hcl _ _ _ hd, hK⟩
         · cases h
       · cases h
     · cases h
   · cases h
 | build T parts =>
   simp only [popC] at h
   split at h
   · rename_i d c1 h1
     injection h with h; subst h
     exact buildPC_sound (K := fun d _ => K (.sh d)) h1 hK
   · cases h
 | slice T y lo hi mx =>
   cases mx with
   | none =>
     simp only [popC] at h
     split at h
     · rename_i d c1 h1
       injection h with h; subst h
       exact sliceC_sound (K := fun d _ => K (.sh d)) h1 hK
     · cases h
   | some z => cases h
 | _ => cases h
end Go.Pw
