/- Merged from the working texts PxD. -/
import Derived.Test.YtkflegdaeienlaaGreatDoorKc37
set_option linter.all false
set_option maxHeartbeats 400000
set_option maxRecDepth 100000
set_option linter.unusedVariables false
set_option linter.unusedSimpArgs false
namespace Go.Pw
open Go.RowKit
def shareCellsC : List SV → CS → Option CS
 | [], c => some c
 | .row k :: rest, c => match aget c.o k with
   | some (.rw _ _ rows) => cond (allSh rows) (shareCellsC rest (c.share k (unSR rows))) none
   | _ => none
 | _ :: rest, c => shareCellsC rest c
theorem shareCellsC_sound : ∀ {l : List SV} {c c' : CS}, shareCellsC l c = some c' → ∀ {K : St → Prop}, K c'.st → shareCells l c.st K
 | [], c, c', h, K, hK => by injection h with h; subst h; exact hK
 | x :: rest, c, c', h, K, hK => by
   cases x with
   | row k =>
     simp only [shareCellsC] at h
     simp only [shareCells, st_o]
     split at h
     · rename_i e sz rows ho
       simp only [ho]
       cases ha : allSh rows with
       | false => rw [ha] at h; cases h
       | true =>
         rw [ha] at h
         refine ⟨rfl, ?_⟩
         rw [← CS.share_st]
         exact shareCellsC_sound h hK
     · cases h
   | _ => exact shareCellsC_sound (l := rest) h hK
def loadShC (T : Nat) (a : Operand) (c : CS) : Option (SV × CS) := match tt T, evC c a with
 | some i, .bp k off => match i.kind.agg, aget c.o k with
   | true, some (.box cs) => match shareCellsC ((cs.drop off).take i.size) c with
     | some c' => (loadC T (evC c' a) c').map fun x => (x, c')
     | none => none
   | _, _ => (loadC T (evC c a) c).map fun x => (x, c)
 | _, _ => (loadC T (evC c a) c).map fun x => (x, c)
theorem loadShC_sound {T : Nat} {a : Operand} {c c' : CS} {x : SV} (h : loadShC T a c = some (x, c')) {K : SV → St → Prop} (hK : K x c'.st) : loadSh E T a c.st K := by
 have fin : (loadC T (evC c a) c).map (fun x => (x, c)) = some (x, c') → ppop E (.load T a) c.st fun x => K x c.st := by
   intro h
   obtain ⟨y, hy, e⟩ := Option.map_eq_some_iff.1 h
   injection e with e1 e2; subst e1; subst e2
   exact loadC_sound hy hK
 unfold loadShC at h
 unfold loadSh
 simp only [E_tt, ev_st, st_o]
 split at h
 · rename_i i k off hi ea
   simp only [hi, ea]
   split at h
   · rename_i cs hg ho
     simp only [hg, ho]
     split at h
     · rename_i c1 h1
       obtain ⟨y, hy, e⟩ := Option.map_eq_some_iff.1 h
       injection e with e1 e2; subst e1; subst e2
       exact shareCellsC_sound h1 (loadC_sound hy hK)
     · cases h
   · rename_i hne
     split
     · rename_i cs hg ho; exact (hne cs hg ho).elim
     · exact fin h
 · rename_i hne
   split
   · rename_i i k off hi ea; exact (hne i k off hi ea).elim
   · exact fin h
def capsLC : List SV → (SV → SV) → CS → Option (List PV × CS)
 | [], _, c => some ([], c)
 | x :: xs, f, c => match f x with
   | .sh (.ea ds) => match capsLC xs f c with
     | some (l, c') => some (.ea ds :: l, c')
     | none => none
   | .bp k 0 => match aget c.o k with
     | some (.box cs) => if 0 < cs.length ∧ cs.all SV.isSh = true then match capsLC xs (fun y => (f y).freeze k (cs.map SV.unsh)) (c.freeze k (cs.map SV.unsh)) with
         | some (l, c') => some (.ea (cs.map SV.unsh) :: l, c')
         | none => none
       else none
     | _ => none
   | _ => none
theorem capsLC_sound : ∀ {l : List SV} {f : SV → SV} {c c' : CS} {ds : List PV}, capsLC l f c = some (ds, c') → ∀ {K : List PV → St → Prop}, K ds c'.st → capsL l f c.st K
 | [], f, c, c', ds, h, K, hK => by injection h with h; injection h with h1 h2; subst h1; subst h2; exact hK
 | x :: xs, f, c, c', ds, h, K, hK => by
   simp only [capsLC] at h
   simp only [capsL, st_o]
   split at h
   · rename_i ds1 ex
     simp only [ex]
     split at h
     · rename_i l c1 h1
       injection h with h; injection h with h3 h4; subst h3; subst h4
       exact capsLC_sound h1 hK
     · cases h
   · rename_i k ex
     simp only [ex]
     split at h
     · rename_i cs ho
       simp only [ho]
       split at h
       · rename_i hc
         refine ⟨hc.1, hc.2, ?_⟩
         split at h
         · rename_i l c1 h1
           injection h with h; injection h with h3 h4; subst h3; subst h4
           rw [← CS.freeze_st]
           exact capsLC_sound h1 hK
         · cases h
       · cases h
     · cases h
   · cases h
def storeC (T : Nat) (a x : SV) (c : CS) : Option (SV × CS) := match tt T, x.cells with
 | some i, some ys => if ys.length = i.size ∧ ys.all SV.one = true then match a with
   | .bp k off => match aget c.o k with
     | some (.box cs) => if off + i.size ≤ cs.length then some (.sh .any, c.setO k (.box (splice cs off ys))) else none
     | _ => none
   | .rp k sz n j => match aget c.o k with
     | some (.rw e sz' rows) => if sz' = sz ∧ j + i.size ≤ sz then match rows[n]? with
       | some r => some (.sh .any, c.setO k (.rw e sz' (rows.set n (splice r j ys))))
       | none => none else none
     | _ => none
   | _ => none else none
 | _, _ => none
theorem storeC_sound {T : Nat} {a x : Operand} {d : Option Nat} {c c' : CS} {y : SV} (h : storeC T (evC c a) (evC c x) c = some (y, c')) {K : SV → St → Prop} (hK : K y c'.st) : epop E d (.store T a x) c.st K := by
 unfold storeC at h
 simp only [epop, E_tt, ev_st, st_o]
 split at h
 · rename_i i ys hi hy
   simp only [hi, hy]
   split at h
   · rename_i hc
     refine ⟨hc.1, hc.2, ?_⟩
     split at h
     · rename_i k off ea
       simp only [ea]
       split at h
       · rename_i cs ho
         simp only [ho]
         split at h
         · rename_i hl
           injection h with h; injection h with h3 h4; subst h3; subst h4
           exact ⟨hl, by rw [CS.setO_st] at hK; exact hK⟩
         · cases h
       · cases h
     · rename_i k sz n j ea
       simp only [ea]
       split at h
       · rename_i e sz' rows ho
         simp only [ho]
         split at h
         · rename_i hl
           refine ⟨hl.1, hl.2, ?_⟩
           split at h
           · rename_i r hr
             injection h with h; injection h with h3 h4; subst h3; subst h4
             simp only [hr]
             rw [CS.setO_st] at hK; exact hK
           · cases h
         · cases h
       · cases h
     · cases h
   · cases h
 · cases h
def bslC (d : Option Nat) (T len : Nat) (parts : List (Nat × Operand)) (c : CS) : Option (SV × CS) := match d, tt T with
 | some d, some i => match i.kind with
   | .sl e => match tt e with
     | some ie => if parts.map (·.1) = List.range len ∧ len * ie.size ≤ 2 ^ 24 then match shsC false c (parts.map (·.2)) with
         | some (ds, c') => cond (ds.all (cellsOk ie.size)) (some (.row d, c'.make d (.rw e ie.size (SR (ds.map fun x => x.cells.getD []))))) none
         | none => none
       else none
     | none => none
   | _ => none
 | _, _ => none
def mslC (d : Option Nat) (T : Nat) (l m : SV) (c : CS) : Option (SV × CS) := match d, tt T with
 | some d, some i => match i.kind with
   | .sl e => match tt e with
     | some ie => match l, m with
       | .sh (.val (.int .i64 n)), .sh (.val (.int .i64 m)) => if 0 ≤ n ∧ n ≤ m ∧ m.toNat * ie.bytes ≤ maxN ∧ m ≤ maxN then some (.row d, c.make d (.rw e ie.size (SR (List.replicate n.toNat (ie.zero.map .val))))) else none
       | _, _ => none
     | none => none
   | _ => none
 | _, _ => none
def appC (strict : Bool) (dst : Option Nat) (args : List Operand) (ts : List Nat) (c : CS) : Option (SV × CS) := match args, ts with
 | [s, x], [t, t'] => if t' = t then match tt t with
   | some i => match i.kind with
     | .sl e => match tt e with
       | some ie => match shC false c (evC c x) with
         | some (.sl more, c') => if (more.all fun r => decide (r.length = ie.size) && r.all PV.one) = true then match evC c' s with
             | .row k => match aget c'.o k with
               | some (.rw e' sz rows) => if k < 1000000 ∧ e' = e ∧ sz = ie.size ∧ (rows.length + more.length) * ie.bytes ≤ maxN ∧ rows.length + more.length ≤ maxN then
                   some (.row k, c'.make k (.rw e sz ((rows.map fun r => r.map (SV.kill k)) ++ SR more))) else none
               | _ => none
             | .sh (.val (.slice none 0 0)) => match dst with
               | some k => cond (strict && (aget c'.o k).isSome) none (if more.length * ie.bytes ≤ maxN ∧ more.length ≤ maxN then some (.row k, c'.make k (.rw e ie.size (SR more))) else none)
               | none => none
             | _ => none else none
         | _ => none
       | none => none
     | _ => none
   | none => none else none
 | _, _ => none
def mupC (T : Nat) (m k v : Operand) (c : CS) : Option (SV × CS) := cond (mapT T) (match evC c k with
 | .sh (.val (.string s)) => match shC false c (evC c v) with
   | some (d, c') => match evC c' m with
     | .mr q => match aget c'.o q with
       | some (.mp ds) => some (.sh .any, c'.setO q (.mp (mput s d ds)))
       | _ => none
     | _ => none
   | none => none
 | _ => none) none
def delC (args : List Operand) (ts : List Nat) (c : CS) : Option (SV × CS) := match args, ts with
 | [m, k], [t, _] => cond (mapT t) (match evC c m, evC c k with
   | .mr q, .sh (.val (.string s)) => match aget c.o q with
     | some (.mp ds) => some (.sh .any, c.setO q (.mp (mdel s ds)))
     | _ => none
   | _, _ => none) none
 | _, _ => none
def nextC (x : SV) (c : CS) : Option (SV × CS) := match x with
 | .bp k 0 => match aget c.o k with
   | some (.it _ []) => some (.sh (.tup [.val (.bool false)]), c)
   | some (.it _ [(s, d)]) => some (.sh (.tup [.val (.bool true), .val (.string s), d]), c.setO k (.it (some (s, d)) []))
   | _ => none
 | _ => none
def epopC (cl : Nat → List PV → Option PV) (strict : Bool) (dst : Option Nat) (op : Op) (c : CS) : Option (SV × CS) := match op with
 | .alloc T => match dst, tt T with
   | some d, some i => some (.bp d 0, c.make d (.box (i.zero.map fun v => .sh (.val v))))
   | _, _ => none
 | .box T x => match dst, (evC c x).cells with
   | some d, some cs => cond (cs.all SV.one) (some (.bp d 0, c.make d (.box (cs.map (SV.kill d))))) none
   | _, _ => none
 | .store T a x => storeC T (evC c a) (evC c x) c
 | .buildSlice T len parts => bslC dst T len parts.toList c
 | .makeSlice T l m => mslC dst T (evC c l) (evC c m) c
 | .makeMap T none => match dst with
   | some d => some (.mr d, c.make d (.mp []))
   | none => none
 | .mapUpdate T m k v => mupC T m k v c
 | .range T x => cond (mapT T) (match dst, evC c x with
   | some d, .sh (.mp ds) => some (.bp d 0, c.make d (.it none ds))
   | _, _ => none) none
 | .next x s => cond s none (nextC (evC c x) c)
 | .entry x => match evC c x with
   | .bp k 0 => match aget c.o k with
     | some (.it (some (s, d)) _) => some (.sh (.tup [.val (.string s), d]), c)
     | _ => none
   | _ => none
 | .makeFunc (.func g) first caps => if first.size = 0 then (match capsLC (caps.toList.map (evC c)) id c with
   | some (l, c') => some (.sh (.fn g l), c')
   | none => none) else none
 | .load T a => loadShC T a c
 | .build T parts => match buildPC false c T parts.toList with
   | some (d, c') => some (.sh d, c')
   | none => none
 | .slice T x lo hi none => match sliceC false c T x lo hi with
   | some (d, c') => some (.sh d, c')
   | none => none
 | .call k => match k.callee with
   | .builtin .append => appC strict dst k.args.toList k.argTypes.toList c
   | .builtin .delete => delC k.args.toList k.argTypes.toList c
   | .value f => match evC c f with
     | .sh (.fn g caps) => match shsC false c k.args.toList with
       | some (ds, c') => match cl g (ds ++ caps) with
         | some d => some (.sh d, c')
         | none => none
       | none => none
     | _ => none
   | .builtin b => (popC cl (.call k) c).map fun x => (x, c)
   | _ => none
 | op => (popC cl op c).map fun x => (x, c)
theorem appC_sound {strict : Bool} {dst : Option Nat} {k : Call} {c c' : CS} {x : SV} (hc : k.callee = .builtin .append) (h : appC strict dst k.args.toList k.argTypes.toList c = some (x, c')) {K : SV → St → Prop} (hK : K x c'.st) : epop E dst (.call k) c.st K := by
 unfold appC at h
 simp only [epop, hc]
 split at h
 · rename_i s y t t' ha ht
   simp only [ha, ht]
   split at h
   · rename_i htt
     refine ⟨htt, ?_⟩
     simp only [E_tt, ev_st]
     split at h
     · rename_i i hi
       simp only [hi]
       split at h
       · rename_i e hk
         simp only [hk]
         split at h
         · rename_i ie hie
           simp only [hie]
           split at h
           · rename_i more c1 h1
             split at h
             · rename_i hall
               refine shC_sound h1 ?_
               simp only
               refine ⟨hall, ?_⟩
               simp only [ev_st, st_o]
               split at h
               · rename_i k' es
                 simp only [es]
                 split at h
                 · rename_i e' sz rows ho
                   simp only [ho]
                   split at h
                   · rename_i hc
                     injection h with h; injection h with h3 h4; subst h3; subst h4
                     exact ⟨hc.1, hc.2.1, hc.2.2.1, hc.2.2.2.1, hc.2.2.2.2, by rw [CS.make_st] at hK; exact hK⟩
                   · cases h
                 · cases h
               · rename_i es
                 simp only [es]
                 split at h
                 · rename_i k'
                   cases hs : (strict && (aget c1.o k').isSome) with
                   | true => rw [hs] at h; cases h
                   | false =>
                     rw [hs] at h
                     simp only [cond_false] at h
                     split at h
                     · rename_i hc
                       injection h with h; injection h with h3 h4; subst h3; subst h4
                       exact ⟨hc.1, hc.2, by rw [CS.make_st] at hK; exact hK⟩
                     · cases h
                 · cases h
               · cases h
             · cases h
           · cases h
         · cases h
       · cases h
     · cases h
   · cases h
 · cases h
theorem epopC_sound {cl : Nat → List PV → Option PV} (hcl : ∀ g vs d, cl g vs = some d → Con E g vs d) {strict : Bool} {dst : Option Nat} {op : Op} {c c' : CS} {x : SV} (h : epopC cl strict dst op c = some (x, c')) {K : SV → St → Prop} (hK : K x c'.st) : epop E dst op c.st K := by
 have pure : ∀ {op : Op}, (popC cl op c).map (fun x => (x, c)) = some (x, c') → ppop E op c.st fun x => K x c.st := by
   intro op h
   obtain ⟨y, hy, e⟩ := Option.map_eq_some_iff.1 h
   injection e with e1 e2; subst e1; subst e2
   exact popC_sound hcl hy hK
 cases op with
 | alloc T =>
   simp only [epopC] at h
   simp only [epop, E_tt]
   split at h
   · rename_i d i hi
     simp only [hi]
     injection h with h; injection h with h3 h4; subst h3; subst h4
     rw [CS.make_st] at hK; exact hK
   · cases h
 | box T y =>
   simp only [epopC] at h
   simp only [epop, ev_st]
   split at h
   · rename_i d cs hcs
     simp only [hcs]
     cases ha : cs.all SV.one with
     | false => rw [ha] at h; cases h
     | true =>
       rw [ha] at h
       injection h with h; injection h with h3 h4; subst h3; subst h4
       exact ⟨rfl, by rw [CS.make_st] at hK; exact hK⟩
   · cases h
 | store T a y => exact storeC_sound h hK
 | buildSlice T len parts =>
   simp only [epopC, bslC] at h
   simp only [epop, E_tt]
   split at h
   · rename_i d i hi
     simp only [hi]
     split at h
     · rename_i e hk
       simp only [hk]
       split at h
       · rename_i ie hie
         simp only [hie]
         split at h
         · rename_i hc
           refine ⟨hc.1, hc.2, ?_⟩
           split at h
           · rename_i ds c1 h1
             cases ha : ds.all (cellsOk ie.size) with
             | false => rw [ha] at h; cases h
             | true =>
               rw [ha] at h
               injection h with h; injection h with h3 h4; subst h3; subst h4
               refine shsC_sound h1 ⟨ha, ?_⟩
               rw [CS.make_st] at hK; exact hK
           · cases h
         · cases h
       · cases h
     · cases h
   · cases h
 | makeSlice T l m =>
   simp only [epopC, mslC] at h
   simp only [epop, E_tt, ev_st]
   split at h
   · rename_i d i hi
     simp only [hi]
     split at h
     · rename_i e hk
       simp only [hk]
       split at h
       · rename_i ie hie
         simp only [hie]
         split at h
         · rename_i n m' e1 e2
           simp only [e1, e2]
           split at h
           · rename_i hc
             injection h with h; injection h with h3 h4; subst h3; subst h4
             exact ⟨hc.1, hc.2.1, hc.2.2.1, hc.2.2.2, by rw [CS.make_st] at hK; exact hK⟩
           · cases h
         · cases h
       · cases h
     · cases h
   · cases h
 | makeMap T r =>
   cases r with
   | none =>
     simp only [epopC] at h
     simp only [epop]
     split at h
     · injection h with h; injection h with h3 h4; subst h3; subst h4
       rw [CS.make_st] at hK; exact hK
     · cases h
   | some r => simp only [epopC] at h; exact pure h
 | mapUpdate T m k v =>
   simp only [epopC, mupC] at h
   simp only [epop, ev_st]
   cases hm : mapT T with
   | false => rw [hm] at h; cases h
   | true =>
     rw [hm] at h
     simp only [cond_true] at h
     refine ⟨9, 176, mapT_ok hm, UU.2.2.2.2.2.2.2, ?_⟩
     split at h
     · rename_i s ek
       simp only [ek]
       split at h
       · rename_i d c1 h1
         refine shC_sound h1 ?_
         simp only [ev_st, st_o]
         split at h
         · rename_i q em
           simp only [em]
           split at h
           · rename_i ds ho
             simp only [ho]
             injection h with h; injection h with h3 h4; subst h3; subst h4
             rw [CS.setO_st] at hK; exact hK
           · cases h
         · cases h
       · cases h
     · cases h
 | range T y =>
   simp only [epopC] at h
   simp only [epop, ev_st]
   cases hm : mapT T with
   | false => rw [hm] at h; cases h
   | true =>
     rw [hm] at h
     simp only [cond_true] at h
     refine ⟨9, 176, mapT_ok hm, ?_⟩
     split at h
     · rename_i d ds ey
       simp only [ey]
       injection h with h; injection h with h3 h4; subst h3; subst h4
       rw [CS.make_st] at hK; exact hK
     · cases h
 | next y s =>
   simp only [epopC] at h
   simp only [epop, ev_st, st_o]
   cases s with
   | true => cases h
   | false =>
     simp only [cond_false, nextC] at h
     refine ⟨rfl, ?_⟩
     split at h
     · rename_i k ey
       simp only [ey]
       split at h
       · rename_i cur ho
         simp only [ho]
         injection h with h; injection h with h3 h4; subst h3; subst h4
         exact ⟨fun _ => hK, fun j s d hj => absurd hj (by simp)⟩
       · rename_i cur s d ho
         simp only [ho]
         injection h with h; injection h with h3 h4; subst h3; subst h4
         refine ⟨fun e => absurd e (by simp), fun j s' d' hj => ?_⟩
         cases j with
         | zero =>
           simp only [List.getElem?_cons_zero, Option.some.injEq, Prod.mk.injEq] at hj
           obtain ⟨rfl, rfl⟩ := hj
           rw [CS.setO_st] at hK; exact hK
         | succ j => simp at hj
       · cases h
     · cases h
 | entry y =>
   simp only [epopC] at h
   simp only [epop, ev_st, st_o]
   split at h
   · rename_i k ey
     simp only [ey]
     split at h
     · rename_i s d r ho
       simp only [ho]
       injection h with h; injection h with h3 h4; subst h3; subst h4
       exact hK
     · cases h
   · cases h
 | makeFunc f first caps =>
   cases f with
   | func g =>
     simp only [epopC] at h
     simp only [epop, maps_st]
     split at h
     · rename_i h0
       split at h
       · rename_i l c1 h1
         injection h with h; injection h with h3 h4; subst h3; subst h4
         exact ⟨h0, capsLC_sound h1 hK⟩
       · cases h
     · cases h
   | _ => simp only [epopC] at h; exact pure h
 | load T a => exact loadShC_sound h hK
 | build T parts =>
   simp only [epopC] at h
   split at h
   · rename_i d c1 h1
     injection h with h; injection h with h3 h4; subst h3; subst h4
     exact buildPC_sound (K := fun d τ => K (.sh d) τ) h1 hK
   · cases h
 | slice T y lo hi mx =>
   cases mx with
   | none =>
     simp only [epopC] at h
     split at h
     · rename_i d c1 h1
       injection h with h; injection h with h3 h4; subst h3; subst h4
       exact sliceC_sound (K := fun d τ => K (.sh d) τ) h1 hK
     · cases h
   | some z => simp only [epopC] at h; exact pure h
 | call k =>
   simp only [epopC] at h
   split at h
   · rename_i hc; exact appC_sound hc h hK
   · rename_i hc
     simp only [epop, hc]
     unfold delC at h
     split at h
     · rename_i m k' t t2 ha ht
       simp only [ha, ht]
       cases hm : mapT t with
       | false => rw [hm] at h; cases h
       | true =>
         rw [hm] at h
         simp only [cond_true] at h
         refine ⟨9, 176, mapT_ok hm, UU.2.2.2.2.2.2.2, ?_⟩
         simp only [ev_st, st_o]
         split at h
         · rename_i q s e1 e2
           simp only [e1, e2]
           split at h
           · rename_i ds ho
             simp only [ho]
             injection h with h; injection h with h3 h4; subst h3; subst h4
             rw [CS.setO_st] at hK; exact hK
           · cases h
         · cases h
     · cases h
   · rename_i f hc
     simp only [epop, hc, ev_st]
     split at h
     · rename_i g caps ef
       simp only [ef]
       split at h
       · rename_i ds c1 h1
         split at h
         · rename_i d hd
           injection h with h; injection h with h3 h4; subst h3; subst h4
           exact shsC_sound h1 ⟨d, hcl _ _ _ hd, hK⟩
         · cases h
       · cases h
     · cases h
   · rename_i b hne1 hne2 hc
     have := pure h
     simp only [epop, hc]
     cases b <;> first | exact this | exact (hne1 rfl).elim | exact (hne2 rfl).elim
   · cases h
 | _ => simp only [epopC] at h; exact pure h
end Go.Pw
