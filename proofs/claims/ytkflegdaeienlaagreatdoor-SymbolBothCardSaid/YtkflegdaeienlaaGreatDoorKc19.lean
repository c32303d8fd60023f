/- Merged from the working texts PxB. -/
import Derived.Test.YtkflegdaeienlaaGreatDoorKc18
set_option linter.all false
set_option maxHeartbeats 400000
set_option linter.unusedVariables false
set_option linter.unusedSimpArgs false
namespace Go.Pw
open Go.RowKit
inductive Tr (α : Type) where
 | lf
 | nd (x : Option α) (l r : Tr α)
def Tr.get {α : Type} : Tr α → Nat → Option α
 | .lf, _ => none
 | .nd x l r, i => match i with
   | 0 => x
   | i + 1 => cond (Nat.beq (i % 2) 0) (l.get (i / 2)) (r.get (i / 2))
def Tr.setF {α : Type} (x : α) : Nat → Tr α → Nat → Tr α
 | 0, t, _ => t
 | n + 1, t, i => match t with
   | .lf => match i with
     | 0 => .nd (some x) .lf .lf
     | i + 1 => cond (Nat.beq (i % 2) 0) (.nd none (Tr.setF x n .lf (i / 2)) .lf) (.nd none .lf (Tr.setF x n .lf (i / 2)))
   | .nd y l r => match i with
     | 0 => .nd (some x) l r
     | i + 1 => cond (Nat.beq (i % 2) 0) (.nd y (Tr.setF x n l (i / 2)) r) (.nd y l (Tr.setF x n r (i / 2)))
def Tr.set {α : Type} (t : Tr α) (i : Nat) (x : α) : Tr α := Tr.setF x (i + 1) t i
def Tr.map {α : Type} (f : α → α) : Tr α → Tr α
 | .lf => .lf
 | .nd x l r => .nd (x.map f) (l.map f) (r.map f)
theorem Tr.get_lf {α : Type} (j : Nat) : (Tr.lf : Tr α).get j = none := rfl
theorem Tr.get_nd0 {α : Type} (x : Option α) (l r : Tr α) : (Tr.nd x l r).get 0 = x := rfl
theorem Tr.get_nd {α : Type} (x : Option α) (l r : Tr α) (i : Nat) : (Tr.nd x l r).get (i + 1) = if i % 2 = 0 then l.get (i / 2) else r.get (i / 2) := by
 show cond (Nat.beq (i % 2) 0) (l.get (i / 2)) (r.get (i / 2)) = _
 by_cases h : i % 2 = 0
 · rw [h]; rfl
 · have h1 : i % 2 = 1 := by omega
   rw [h1]; rfl
theorem Tr.get_setF {α : Type} (x : α) : ∀ (n : Nat) (t : Tr α) (i j : Nat), i < n → (Tr.setF x n t i).get j = if j = i then some x else t.get j
 | 0, t, i, j, h => by omega
 | n + 1, t, i, j, h => by
   have cnd : ∀ {β : Type} (i : Nat) (a b : β), cond (Nat.beq (i % 2) 0) a b = if i % 2 = 0 then a else b := by
     intro β i a b
     by_cases h : i % 2 = 0
     · rw [h]; rfl
     · have h1 : i % 2 = 1 := by omega
       rw [h1]; rfl
   cases t with
   | lf =>
     cases i with
     | zero =>
       simp only [Tr.setF]
       cases j with
       | zero => simp [Tr.get_nd0]
       | succ j => simp [Tr.get_nd, Tr.get_lf]
     | succ i =>
       simp only [Tr.setF, cnd]
       cases j with
       | zero => by_cases hi : i % 2 = 0 <;> simp [hi, Tr.get_nd0, Tr.get_lf]
       | succ j =>
         by_cases hi : i % 2 = 0
         · rw [if_pos hi, Tr.get_nd]
           by_cases hj : j % 2 = 0
           · rw [if_pos hj, Tr.get_setF x n _ _ _ (by omega)]
             simp only [Tr.get_lf]
             by_cases e : j = i
             · subst e; simp
             · rw [if_neg (by omega), if_neg (by omega)]
           · rw [if_neg hj, if_neg (by omega)]; simp only [Tr.get_lf]
         · rw [if_neg hi, Tr.get_nd]
           by_cases hj : j % 2 = 0
           · rw [if_pos hj, if_neg (by omega)]; simp only [Tr.get_lf]
           · rw [if_neg hj, Tr.get_setF x n _ _ _ (by omega)]
             simp only [Tr.get_lf]
             by_cases e : j = i
             · subst e; simp
             · rw [if_neg (by omega), if_neg (by omega)]
   | nd y l r =>
     cases i with
     | zero =>
       simp only [Tr.setF]
       cases j with
       | zero => simp [Tr.get_nd0]
       | succ j => simp [Tr.get_nd]
     | succ i =>
       simp only [Tr.setF, cnd]
       cases j with
       | zero => by_cases hi : i % 2 = 0 <;> simp [hi, Tr.get_nd0]
       | succ j =>
         by_cases hi : i % 2 = 0
         · rw [if_pos hi, Tr.get_nd, Tr.get_nd]
           by_cases hj : j % 2 = 0
           · rw [if_pos hj, if_pos hj, Tr.get_setF x n _ _ _ (by omega)]
             by_cases e : j = i
             · subst e; simp
             · rw [if_neg (by omega), if_neg (by omega)]
           · rw [if_neg hj, if_neg hj, if_neg (by omega)]
         · rw [if_neg hi, Tr.get_nd, Tr.get_nd]
           by_cases hj : j % 2 = 0
           · rw [if_pos hj, if_pos hj, if_neg (by omega)]
           · rw [if_neg hj, if_neg hj, Tr.get_setF x n _ _ _ (by omega)]
             by_cases e : j = i
             · subst e; simp
             · rw [if_neg (by omega), if_neg (by omega)]
theorem Tr.get_set {α : Type} (t : Tr α) (i : Nat) (x : α) (j : Nat) : (t.set i x).get j = if j = i then some x else t.get j := Tr.get_setF x _ t i j (Nat.lt_succ_self i)
theorem Tr.get_map {α : Type} (f : α → α) : ∀ (t : Tr α) (i : Nat), (t.map f).get i = (t.get i).map f
 | .lf, i => rfl
 | .nd x l r, 0 => rfl
 | .nd x l r, i + 1 => by
   simp only [Tr.map, Tr.get_nd]
   split
   · exact Tr.get_map f l _
   · exact Tr.get_map f r _
def aget : List (Nat × Ob) → Nat → Option Ob
 | [], _ => none
 | (k, x) :: r, t => cond (Nat.beq t k) (some x) (aget r t)
theorem aget_cons (k : Nat) (x : Ob) (r : List (Nat × Ob)) (t : Nat) : aget ((k, x) :: r) t = if t = k then some x else aget r t := by
 show cond (Nat.beq t k) (some x) (aget r t) = _
 by_cases h : t = k
 · subst h; simp
 · have : Nat.beq t k = false := Bool.eq_false_iff.2 fun e => h (Nat.eq_of_beq_eq_true e)
   rw [this, if_neg h]; rfl
def adel (k : Nat) : List (Nat × Ob) → List (Nat × Ob)
 | [] => []
 | (j, x) :: r => cond (Nat.beq j k) (adel k r) ((j, x) :: adel k r)
theorem aget_adel (k : Nat) : ∀ (l : List (Nat × Ob)) (t : Nat), aget (adel k l) t = if t = k then none else aget l t
 | [], t => by simp [adel, aget]
 | (j, x) :: r, t => by
   have hc : adel k ((j, x) :: r) = if j = k then adel k r else (j, x) :: adel k r := by
     show cond (Nat.beq j k) _ _ = _
     by_cases h : j = k
     · subst h; simp
     · have : Nat.beq j k = false := Bool.eq_false_iff.2 fun e => h (Nat.eq_of_beq_eq_true e)
       rw [this, if_neg h]; rfl
   rw [hc, aget_cons]
   by_cases h : j = k
   · rw [if_pos h, aget_adel k r t]
     by_cases ht : t = k
     · simp [ht]
     · rw [if_neg ht, if_neg ht, if_neg (by omega)]
   · rw [if_neg h, aget_cons, aget_adel k r t]
     by_cases ht : t = k
     · subst ht
       rw [if_neg (fun e => h e.symm)]
       simp
     · simp [ht]
def amap (f : Ob → Ob) : List (Nat × Ob) → List (Nat × Ob)
 | [] => []
 | (j, x) :: r => (j, f x) :: amap f r
theorem aget_amap (f : Ob → Ob) : ∀ (l : List (Nat × Ob)) (t : Nat), aget (amap f l) t = (aget l t).map f
 | [], t => rfl
 | (j, x) :: r, t => by
   simp only [amap, aget_cons, aget_amap f r t]
   split <;> rfl
structure CS where
 s : Tr SV
 o : List (Nat × Ob)
def CS.st (c : CS) : St := { s := fun i => (c.s.get i).getD (.sh .any), o := aget c.o }
def CS.gt (c : CS) (i : Nat) : SV := match c.s.get i with
 | some x => x
 | none => .sh .any
theorem CS.gt_st (c : CS) (i : Nat) : c.st.s i = c.gt i := by
 unfold CS.gt
 show (c.s.get i).getD (.sh .any) = _
 cases c.s.get i <;> rfl
def CS.put (c : CS) (d : Option Nat) (x : SV) : CS := match d with
 | some t => { c with s := c.s.set t x }
 | none => c
theorem CS.put_st (c : CS) (d : Option Nat) (x : SV) : (c.put d x).st = c.st.put d x := by
 cases d with
 | none => rfl
 | some t =>
   refine St.ext' (fun i => ?_) (fun k => rfl)
   show ((c.s.set t x).get i).getD _ = if i = t then x else (c.s.get i).getD _
   rw [Tr.get_set]
   split <;> rfl
def CS.setO (c : CS) (k : Nat) (ob : Ob) : CS := { c with o := (k, ob) :: adel k c.o }
theorem CS.setO_st (c : CS) (k : Nat) (ob : Ob) : (c.setO k ob).st = c.st.setO k ob := by
 refine St.ext' (fun i => rfl) (fun j => ?_)
 show aget ((k, ob) :: adel k c.o) j = if j = k then some ob else aget c.o j
 rw [aget_cons, aget_adel]
 split <;> rfl
def CS.tr (c : CS) (k : Nat) (f : SV → SV) (g : Ob → Ob) : CS := { s := c.s.map f, o := amap g (adel k c.o) }
theorem CS.tr_st (c : CS) (k : Nat) (f : SV → SV) (g : Ob → Ob) (hf : f (.sh .any) = .sh .any) : (c.tr k f g).st = { s := fun i => f (c.st.s i), o := fun i => if i = k then none else (c.st.o i).map g } := by
 refine St.ext' (fun i => ?_) (fun j => ?_)
 · show ((c.s.map f).get i).getD _ = f ((c.s.get i).getD _)
   rw [Tr.get_map]
   cases c.s.get i with
   | none => exact hf.symm
   | some x => rfl
 · show aget (amap g (adel k c.o)) j = if j = k then none else (aget c.o j).map g
   rw [aget_amap, aget_adel]
   split <;> rfl
def CS.kill (c : CS) (k : Nat) : CS := c.tr k (SV.kill k) (Ob.kill k)
theorem CS.kill_st (c : CS) (k : Nat) : (c.kill k).st = c.st.kill k := c.tr_st k _ _ rfl
def CS.make (c : CS) (k : Nat) (ob : Ob) : CS := (c.kill k).setO k ob
theorem CS.make_st (c : CS) (k : Nat) (ob : Ob) : (c.make k ob).st = c.st.make k ob := by rw [CS.make, CS.setO_st, CS.kill_st]; rfl
def CS.share (c : CS) (k : Nat) (rows : List (List PV)) : CS := c.tr k (SV.share k rows) (Ob.share k rows)
theorem CS.share_st (c : CS) (k : Nat) (rows : List (List PV)) : (c.share k rows).st = c.st.share k rows := c.tr_st k _ _ rfl
def CS.shareM (c : CS) (k : Nat) (ds : List (ByteArray × PV)) : CS := c.tr k (SV.shareM k ds) (Ob.shareM k ds)
theorem CS.shareM_st (c : CS) (k : Nat) (ds : List (ByteArray × PV)) : (c.shareM k ds).st = c.st.shareM k ds := c.tr_st k _ _ rfl
def CS.freeze (c : CS) (k : Nat) (ds : List PV) : CS := c.tr k (SV.freeze k ds) (Ob.freeze k ds)
theorem CS.freeze_st (c : CS) (k : Nat) (ds : List PV) : (c.freeze k ds).st = c.st.freeze k ds := c.tr_st k _ _ rfl
def evC (c : CS) : Operand → SV
 | .tmp t => c.gt t
 | .const v => constSV v
 | .global g => .sh (gpv g)
 | .func f => .sh (.fn f [])
theorem ev_st (c : CS) (x : Operand) : c.st.ev E x = evC c x := by
 cases x with
 | tmp t => exact c.gt_st t
 | _ => rfl
theorem E_tt : E.tt = tt := rfl
theorem st_o (c : CS) : c.st.o = aget c.o := rfl
def shC (q : Bool) (c : CS) (x : SV) : Option (PV × CS) := match x with
 | .sh (.val (.slice none 0 0)) => some (.sl [], c)
 | .sh .e0 => some (.sl [], c)
 | .sh d => some (d.nz, c)
 | .row k => match aget c.o k with
   | some (.rw _ _ rows) => cond q none (cond (allSh rows) (some (.sl (unSR rows), c.share k (unSR rows))) none)
   | _ => none
 | .mg pre k => match aget c.o k with
   | some (.mp ds) => cond q none (some (.agg (pre ++ [.mp ds]), c.shareM k ds))
   | _ => none
 | _ => none
theorem shC_sound {q : Bool} {c c' : CS} {x : SV} {d : PV} (h : shC q c x = some (d, c')) {K : PV → St → Prop} (hK : K d c'.st) : withSh q c.st x K := by
 unfold shC at h
 unfold withSh
 split at h
 · injection h with h; injection h with h1 h2; subst h1; subst h2; exact hK
 · injection h with h; injection h with h1 h2; subst h1; subst h2; exact hK
 · rename_i d0 h1 h2
   injection h with h; injection h with h3 h4; subst h3; subst h4
   split
   · rename_i e; injection e with e; exact (h1 e).elim
   · rename_i e; injection e with e; exact (h2 e).elim
   · rename_i d1 _ _ e; injection e with e; subst e; exact hK
   · rename_i e; cases e
   · rename_i e; cases e
   · rename_i hh _ _; exact (hh _ rfl).elim
 · rename_i k
   simp only [st_o]
   split at h
   · rename_i e sz rows ho
     simp only [ho]
     cases q with
     | true => cases h
     | false =>
       cases ha : allSh rows with
       | false => rw [ha] at h; cases h
       | true =>
         rw [ha] at h
         injection h with h; injection h with h1 h2; subst h1; subst h2
         exact ⟨rfl, rfl, by rw [CS.share_st] at hK; exact hK⟩
   · cases h
 · rename_i pre k
   simp only [st_o]
   split at h
   · rename_i ds ho
     simp only [ho]
     cases q with
     | true => cases h
     | false =>
       injection h with h; injection h with h1 h2; subst h1; subst h2
       exact ⟨rfl, by rw [CS.shareM_st] at hK; exact hK⟩
   · cases h
 · cases h
def shsC (q : Bool) : CS → List Operand → Option (List PV × CS)
 | c, [] => some ([], c)
 | c, x :: xs => match shC q c (evC c x) with
   | some (d, c1) => match shsC q c1 xs with
     | some (ds, c2) => some (d :: ds, c2)
     | none => none
   | none => none
theorem shsC_sound {q : Bool} : ∀ {xs : List Operand} {c c' : CS} {ds : List PV}, shsC q c xs = some (ds, c') → ∀ {K : List PV → St → Prop}, K ds c'.st → withShs E q c.st xs K
 | [], c, c', ds, h, K, hK => by
   injection h with h; injection h with h1 h2; subst h1; subst h2; exact hK
 | x :: xs, c, c', ds, h, K, hK => by
   simp only [shsC] at h
   simp only [withShs, ev_st]
   split at h
   · rename_i d c1 h1
     split at h
     · rename_i ds' c2 h2
       injection h with h; injection h with h3 h4; subst h3; subst h4
       exact shC_sound h1 (shsC_sound h2 hK)
     · cases h
   · cases h
def binPC (op : BinOp) (k : IntKind) (a b : Int) : Option Value := match op with
 | .add => some (.int k (k.wrap (a + b)))
 | .sub => some (.int k (k.wrap (a - b)))
 | .mul => some (.int k (k.wrap (a * b)))
 | .quo => if b = 0 then none else some (.int k (k.wrap (a.tdiv b)))
 | .rem => if b = 0 then none else some (.int k (a.tmod b))
 | .and => some (.int k (k.wrap (BitVec.ofInt k.bits a &&& BitVec.ofInt k.bits b).toNat))
 | .or => some (.int k (k.wrap (BitVec.ofInt k.bits a ||| BitVec.ofInt k.bits b).toNat))
 | .xor => some (.int k (k.wrap (BitVec.ofInt k.bits a ^^^ BitVec.ofInt k.bits b).toNat))
 | .eql => some (.bool (a == b))
 | .neq => some (.bool (a != b))
 | .lss => some (.bool (decide (a < b)))
 | .leq => some (.bool (decide (a ≤ b)))
 | .gtr => some (.bool (decide (a > b)))
 | .geq => some (.bool (decide (a ≥ b)))
 | _ => none
theorem binPC_sound {op : BinOp} {k : IntKind} {a b : Int} {v : Value} (h : binPC op k a b = some v) {K : Value → Prop} (hK : K v) : binP op k a b K := by
 cases op <;> simp only [binPC] at h <;> simp only [binP] <;> first
   | (injection h with h; subst h; exact hK)
   | (split at h
      · cases h
      · rename_i hb; injection h with h; subst h; exact ⟨hb, hK⟩)
   | cases h
def binSC (op : BinOp) (k : IntKind) (a b : Int) : Option Value := match op with
 | .shl => if 0 ≤ b then some (.int k (k.wrap (a * 2 ^ (min b.toNat k.bits)))) else none
 | .shr => if 0 ≤ b then some (.int k (a.fdiv (2 ^ (min b.toNat k.bits)))) else none
 | _ => none
theorem binSC_sound {op : BinOp} {k : IntKind} {a b : Int} {v : Value} (h : binSC op k a b = some v) {K : Value → Prop} (hK : K v) : binS op k a b K := by
 cases op <;> simp only [binSC] at h <;> simp only [binS] <;> first
   | (split at h
      · rename_i hb; injection h with h; subst h; exact ⟨hb, hK⟩
      · cases h)
   | cases h
def placeC (k : TK) (i : Nat) : Option (Nat × Nat) := match k with
 | .st fs => match fs[i]? with
   | some (o, ft) => (tt ft).map fun j => (o, j.size)
   | none => none
 | .ar _ e => (tt e).map fun j => (i * j.size, j.size)
 | _ => none
def kOkC : TK → Bool
 | .st fs => fs.all fun p => (tt p.2).isSome
 | .ar _ e => (tt e).isSome
 | _ => false
def bldC (place : Nat → Option (Nat × Nat)) : List PV → List (Nat × PV) → Option (List PV)
 | cs, [] => some cs
 | cs, (i, d) :: rest => match place i, d.cells with
   | some (off, size), some ys => if ys.length = size ∧ off + size ≤ cs.length ∧ ys.all PV.one = true then bldC place (spliceP cs off ys) rest else none
   | _, _ => none
theorem bldC_sound {place : Nat → Option (Nat × Nat)} : ∀ {ps : List (Nat × PV)} {cs r : List PV}, bldC place cs ps = some r → ∀ {K : List PV → Prop}, K r → buildC place cs ps K
 | [], cs, r, h, K, hK => by injection h with h; subst h; exact hK
 | (i, d) :: ps, cs, r, h, K, hK => by
   simp only [bldC] at h
   simp only [buildC]
   split at h
   · rename_i off size ys h1 h2
     split at h
     · rename_i hc
       simp only [h1, h2]
       exact ⟨hc.1, hc.2.1, hc.2.2, bldC_sound h hK⟩
     · cases h
   · cases h
def buildPC (q : Bool) (c : CS) (T : Nat) (parts : List (Nat × Operand)) : Option (PV × CS) := match tt T with
 | some i => match kOkC i.kind with
   | true => match shsC q c (parts.map (·.2)) with
     | some (ds, c') => match bldC (placeC i.kind) (i.zero.map .val) ((parts.map (·.1)).zip ds) with
       | some cs => some (.agg cs, c')
       | none => none
     | none => none
   | false => none
 | none => none
theorem buildPC_sound {q : Bool} {c c' : CS} {T : Nat} {parts : List (Nat × Operand)} {d : PV} (h : buildPC q c T parts = some (d, c')) {K : PV → St → Prop} (hK : K d c'.st) : buildP E q c.st T parts K := by
 unfold buildPC at h
 unfold buildP
 rw [E_tt]
 split at h
 · rename_i i hi
   simp only [hi]
   split at h
   · rename_i hk
     split at h
     · rename_i ds c1 h1
       split at h
       · rename_i cs h2
         injection h with h; injection h with h3 h4; subst h3; subst h4
         exact ⟨hk, shsC_sound h1 (bldC_sound h2 hK)⟩
       · cases h
     · cases h
   · cases h
 · cases h
def sliceC (q : Bool) (c : CS) (T : Nat) (x : Operand) (lo hi : Option Operand) : Option (PV × CS) := match tt T with
 | some i => match i.kind with
   | .sl e => match tt e with
     | some ie => match shC q c (evC c x) with
       | some (.sl rows, c') => if (rows.all fun r => decide (r.length = ie.size)) = true then match lo.map (evC c'), hi.map (evC c') with
           | none, none => some (.sl rows, c')
           | some (.sh (.val (.int _ l))), none => if 0 ≤ l ∧ l.toNat ≤ rows.length then some (.sl (rows.drop l.toNat), c') else none
           | none, some (.sh (.val (.int _ h))) => if 0 ≤ h ∧ h.toNat ≤ rows.length then some (.sl (rows.take h.toNat), c') else none
           | some (.sh (.val (.int _ l))), some (.sh (.val (.int _ h))) => if 0 ≤ l ∧ l ≤ h ∧ h.toNat ≤ rows.length then some (.sl ((rows.take h.toNat).drop l.toNat), c') else none
           | _, _ => none
         else none
       | _ => none
     | none => none
   | _ => none
 | none => none
theorem sliceC_sound {q : Bool} {c c' : CS} {T : Nat} {x : Operand} {lo hi : Option Operand} {d : PV} (h : sliceC q c T x lo hi = some (d, c')) {K : PV → St → Prop} (hK : K d c'.st) : sliceP E q c.st T x lo hi K := by
 unfold sliceC at h
 unfold sliceP
 rw [E_tt]
 split at h
 · rename_i i hi
   simp only [hi]
   split at h
   · rename_i e hk
     simp only [hk]
     split at h
     · rename_i ie hie
       split at h
       · rename_i rows c1 h1
         split at h
         · rename_i hall
           have hlen : ∀ r ∈ rows, r.length = ie.size := fun r hr => by simpa using List.all_eq_true.1 hall r hr
           rw [ev_st]
           refine shC_sound h1 ?_
           refine ⟨⟨ie, hie, hlen⟩, ?_⟩
           have hm : ∀ z : Option Operand, z.map (c1.st.ev E) = z.map (evC c1) := fun z => by cases z <;> simp [ev_st]
           simp only [hm]
           split at h
           · rename_i e1 e2
             injection h with h; injection h with h3 h4; subst h3; subst h4
             simp only [e1, e2]; exact hK
           · rename_i e1 e2
             split at h
             · rename_i hc
               injection h with h; injection h with h3 h4; subst h3; subst h4
               simp only [e1, e2]; exact ⟨hc.1, hc.2, hK⟩
             · cases h
           · rename_i e1 e2
             split at h
             · rename_i hc
               injection h with h; injection h with h3 h4; subst h3; subst h4
               simp only [e1, e2]; exact ⟨hc.1, hc.2, hK⟩
             · cases h
           · rename_i e1 e2
             split at h
             · rename_i hc
               injection h with h; injection h with h3 h4; subst h3; subst h4
               simp only [e1, e2]; exact ⟨hc.1, hc.2.1, hc.2.2, hK⟩
             · cases h
           · cases h
         · cases h
       · cases h
     · cases h
   · cases h
 · cases h
end Go.Pw
