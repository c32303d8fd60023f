/- Merged from the working texts PxE. -/
import Derived.Test.YtkflegdaeienlaaGreatDoorKc38
import Derived.Test.YtkflegdaeienlaaGreatDoorKc23
import Derived.Test.YtkflegdaeienlaaGreatDoorKc39
set_option linter.all false
set_option maxHeartbeats 400000
set_option maxRecDepth 100000
set_option linter.unusedVariables false
set_option linter.unusedSimpArgs false
namespace Go.Pw
open Go.RowKit
def Value.eqb : Value → Value → Bool
 | .int k a, .int k' b => decide (k = k') && decide (a = b)
 | .bool a, .bool b => a == b
 | .string a, .string b => decide (a = b)
 | .slice none 0 0, .slice none 0 0 => true
 | .map none, .map none => true
 | _, _ => false
theorem Value.eqb_eq {a b : Value} (h : Value.eqb a b = true) : a = b := by
 unfold Value.eqb at h
 split at h
 · simp only [Bool.and_eq_true, decide_eq_true_eq] at h
   rw [h.1, h.2]
 · rw [eq_of_beq h]
 · rw [of_decide_eq_true h]
 · rfl
 · rfl
 · cases h
def lsEq {α : Type} (f : α → α → Bool) : List α → List α → Bool
 | [], [] => true
 | a :: l, b :: m => f a b && lsEq f l m
 | _, _ => false
theorem lsEq_eq {α : Type} {f : α → α → Bool} (hf : ∀ a b, f a b = true → a = b) : ∀ {l m : List α}, lsEq f l m = true → l = m
 | [], [], _ => rfl
 | a :: l, b :: m, h => by
   simp only [lsEq, Bool.and_eq_true] at h
   rw [hf a b h.1, lsEq_eq hf h.2]
 | [], _ :: _, h => by cases h
 | _ :: _, [], h => by cases h
def PV.eqb : Nat → PV → PV → Bool
 | 0, _, _ => false
 | n + 1, a, b => match a, b with
   | .any, .any => true
   | .val a, .val b => Value.eqb a b
   | .sl a, .sl b => lsEq (lsEq (PV.eqb n)) a b
   | .agg a, .agg b => lsEq (PV.eqb n) a b
   | .tup a, .tup b => lsEq (PV.eqb n) a b
   | .ea a, .ea b => lsEq (PV.eqb n) a b
   | .fn g a, .fn g' b => Nat.beq g g' && lsEq (PV.eqb n) a b
   | .e0, .e0 => true
   | .mp a, .mp b => lsEq (fun x y => decide (x.1 = y.1) && PV.eqb n x.2 y.2) a b
   | _, _ => false
theorem PV.eqb_eq : ∀ (n : Nat) (a b : PV), PV.eqb n a b = true → a = b
 | 0, a, b, h => by cases h
 | n + 1, a, b, h => by
   have ih := PV.eqb_eq n
   simp only [PV.eqb] at h
   split at h
   · rfl
   · rw [Value.eqb_eq h]
   · rw [lsEq_eq (fun x y => lsEq_eq ih) h]
   · rw [lsEq_eq ih h]
   · rw [lsEq_eq ih h]
   · rw [lsEq_eq ih h]
   · rw [Bool.and_eq_true] at h
     rw [Nat.eq_of_beq_eq_true h.1, lsEq_eq ih h.2]
   · rfl
   · rw [lsEq_eq (fun x y hxy => by
       simp only [Bool.and_eq_true, decide_eq_true_eq] at hxy
       exact Prod.ext hxy.1 (ih _ _ hxy.2)) h]
   · cases h
def SV.eqb : SV → SV → Bool
 | .sh a, .sh b => PV.eqb 20 a b
 | .bp k i, .bp k' i' => Nat.beq k k' && Nat.beq i i'
 | .rp k a b c, .rp k' a' b' c' => Nat.beq k k' && Nat.beq a a' && Nat.beq b b' && Nat.beq c c'
 | .row k, .row k' => Nat.beq k k'
 | .sub k a b c, .sub k' a' b' c' => Nat.beq k k' && Nat.beq a a' && Nat.beq b b' && Nat.beq c c'
 | .mr k, .mr k' => Nat.beq k k'
 | .mg p k, .mg p' k' => lsEq (PV.eqb 20) p p' && Nat.beq k k'
 | _, _ => false
theorem SV.eqb_eq {a b : SV} (h : SV.eqb a b = true) : a = b := by
 have nb : ∀ {m n : Nat}, Nat.beq m n = true → m = n := fun h => Nat.eq_of_beq_eq_true h
 unfold SV.eqb at h
 split at h
 · rw [PV.eqb_eq _ _ _ h]
 · simp only [Bool.and_eq_true] at h
   rw [nb h.1, nb h.2]
 · simp only [Bool.and_eq_true] at h
   obtain ⟨⟨⟨h1, h2⟩, h3⟩, h4⟩ := h
   rw [nb h1, nb h2, nb h3, nb h4]
 · rw [nb h]
 · simp only [Bool.and_eq_true] at h
   obtain ⟨⟨⟨h1, h2⟩, h3⟩, h4⟩ := h
   rw [nb h1, nb h2, nb h3, nb h4]
 · rw [nb h]
 · simp only [Bool.and_eq_true] at h
   rw [lsEq_eq (PV.eqb_eq 20) h.1, nb h.2]
 · cases h
def prEq (x y : ByteArray × PV) : Bool := decide (x.1 = y.1) && PV.eqb 20 x.2 y.2
theorem prEq_eq {x y : ByteArray × PV} (h : prEq x y = true) : x = y := by
 simp only [prEq, Bool.and_eq_true, decide_eq_true_eq] at h
 exact Prod.ext h.1 (PV.eqb_eq _ _ _ h.2)
def Ob.eqb : Ob → Ob → Bool
 | .box a, .box b => lsEq SV.eqb a b
 | .rw e s a, .rw e' s' b => Nat.beq e e' && Nat.beq s s' && lsEq (lsEq SV.eqb) a b
 | .mp a, .mp b => lsEq prEq a b
 | .it none a, .it none b => lsEq prEq a b
 | .it (some x) a, .it (some y) b => prEq x y && lsEq prEq a b
 | _, _ => false
theorem Ob.eqb_eq {a b : Ob} (h : Ob.eqb a b = true) : a = b := by
 have hs : ∀ x y, SV.eqb x y = true → x = y := fun _ _ h => SV.eqb_eq h
 have hp : ∀ x y, prEq x y = true → x = y := fun _ _ h => prEq_eq h
 unfold Ob.eqb at h
 split at h
 · rw [lsEq_eq hs h]
 · simp only [Bool.and_eq_true] at h
   rw [show _ = _ from Nat.eq_of_beq_eq_true h.1.1, show _ = _ from Nat.eq_of_beq_eq_true h.1.2, lsEq_eq (fun _ _ => lsEq_eq hs) h.2]
 · rw [lsEq_eq hp h]
 · rw [lsEq_eq hp h]
 · simp only [Bool.and_eq_true] at h
   rw [prEq_eq h.1, lsEq_eq hp h.2]
 · cases h
def oeqb : Option SV → Option SV → Bool
 | none, none => true
 | some a, some b => SV.eqb a b
 | _, _ => false
def Tr.eqb : Tr SV → Tr SV → Bool
 | .lf, .lf => true
 | .nd x l r, .nd y l' r' => oeqb x y && (Tr.eqb l l' && Tr.eqb r r')
 | _, _ => false
theorem Tr.eqb_eq : ∀ {a b : Tr SV}, Tr.eqb a b = true → a = b
 | .lf, .lf, _ => rfl
 | .nd x l r, .nd y l' r', h => by
   simp only [Tr.eqb, Bool.and_eq_true] at h
   have h1 : x = y := by
     have := h.1
     unfold oeqb at this
     split at this
     · rfl
     · rw [SV.eqb_eq this]
     · cases this
   rw [h1, Tr.eqb_eq h.2.1, Tr.eqb_eq h.2.2]
 | .lf, .nd .., h => by cases h
 | .nd .., .lf, h => by cases h
def obEq : Option Ob → Option Ob → Bool
 | none, none => true
 | some a, some b => Ob.eqb a b
 | _, _ => false
theorem obEq_eq {a b : Option Ob} (h : obEq a b = true) : a = b := by
 unfold obEq at h
 split at h
 · rfl
 · rw [Ob.eqb_eq h]
 · cases h
def CS.eqb (a b : CS) : Bool := Tr.eqb a.s b.s && ((a.o.all fun p => obEq (aget a.o p.1) (aget b.o p.1)) && (b.o.all fun p => obEq (aget a.o p.1) (aget b.o p.1)))
theorem aget_mem : ∀ {l : List (Nat × Ob)} {k : Nat} {x : Ob}, aget l k = some x → ∃ p ∈ l, p.1 = k
 | [], k, x, h => by cases h
 | (j, y) :: r, k, x, h => by
   rw [aget_cons] at h
   split at h
   · rename_i e; exact ⟨(j, y), by simp, e.symm⟩
   · obtain ⟨p, hp, e⟩ := aget_mem h
     exact ⟨p, by simp [hp], e⟩
theorem CS.eqb_st {a b : CS} (h : CS.eqb a b = true) : a.st = b.st := by
 simp only [CS.eqb, Bool.and_eq_true, List.all_eq_true] at h
 obtain ⟨h1, h2, h3⟩ := h
 have e := Tr.eqb_eq h1
 refine St.ext' (fun i => ?_) (fun k => ?_)
 · show (a.s.get i).getD _ = (b.s.get i).getD _
   rw [e]
 · show aget a.o k = aget b.o k
   cases ha : aget a.o k with
   | some x =>
     obtain ⟨p, hp, rfl⟩ := aget_mem ha
     have := obEq_eq (h2 p hp)
     rw [← this, ha]
   | none =>
     cases hb : aget b.o k with
     | none => rfl
     | some x =>
       obtain ⟨p, hp, rfl⟩ := aget_mem hb
       have := obEq_eq (h3 p hp)
       rw [ha, hb] at this; cases this
structure Hint where
 inl : List Nat := []
 pre : List Nat := []
 t2 : List Nat := []
 dr : Option (Nat × List Nat × List (List Nat)) := none
 x : Bool := false
structure Par where
 cl : Nat → List PV → Option PV
 ci : Nat → List SV → Option Nat → CS → Option (SV × CS)
def nmem (k : Nat) : List Nat → Bool
 | [] => false
 | j :: l => cond (Nat.beq k j) true (nmem k l)
def shareW (c : CS) (k : Nat) : CS := match aget c.o k with
 | some (.rw _ _ rows) => cond (allSh rows) (c.share k (unSR rows)) c
 | some (.box cs) => if 0 < cs.length ∧ cs.all SV.isSh = true then c.freeze k (cs.map SV.unsh) else c
 | _ => c
theorem shareW_weak (c : CS) (k : Nat) : Weak E c.st (shareW c k).st := by
 unfold shareW
 split
 · rename_i e sz rows ho
   cases ha : allSh rows with
   | false => exact Weak.refl _
   | true =>
     simp only [cond_true]
     rw [CS.share_st]
     exact Weak.share (by rw [st_o]; exact ho) ha
 · rename_i cs ho
   split
   · rename_i hc
     rw [CS.freeze_st]
     exact Weak.freeze (by rw [st_o]; exact ho) hc.1 hc.2
   · exact Weak.refl _
 · exact Weak.refl _
def sharesW : List Nat → CS → CS
 | [], c => c
 | k :: l, c => sharesW l (shareW c k)
theorem sharesW_weak : ∀ (l : List Nat) (c : CS), Weak E c.st (sharesW l c).st
 | [], c => Weak.refl _
 | k :: l, c => (shareW_weak c k).trans (sharesW_weak l _)
def mgC (op : Op) (c : CS) : Option SV := match op with
 | .build T parts => match parts.toList with
   | [(0, x), (1, .tmp t)] => match evC c x, c.gt t, tt T with
     | .sh (.val (.int k n)), .mr q, some i => match kOkC i.kind, placeC i.kind 0, placeC i.kind 1, i.zero.length with
       | true, some (0, 1), some (1, 1), 2 => some (.mg [.val (.int k n)] q)
       | _, _, _, _ => none
     | _, _, _ => none
   | _ => none
 | _ => none
theorem mgC_sound {o : Oper} {c : CS} {x : SV} (h : mgC o.op c = some x) {K : SV → St → Prop} (hK : K x c.st) : SemOp E o c.st K := by
 unfold mgC at h
 split at h
 · rename_i T parts ho
   split at h
   · rename_i y t hp
     split at h
     · rename_i k n q i e1 e2 e3
       split at h
       · rename_i g1 g2 g3 g4
         injection h with h; subst h
         exact mg_build ho hp (by rw [E_tt]; exact e3) g1 g2 g3 g4 (by rw [ev_st]; exact e1) (by rw [CS.gt_st]; exact e2) hK
       · cases h
     · cases h
   · cases h
 · cases h
def nilC (op : Op) (c : CS) : Option SV := match op with
 | .binOp .eql T x (.const (.slice none 0 0)) _ => match tt T, evC c x with
   | some i, .sh (.sl (_ :: _)) => match i.kind with
     | .sl _ => some (.sh (.val (.bool false)))
     | _ => none
   | _, _ => none
 | _ => none
theorem nilC_sound {o : Oper} {c : CS} {x : SV} (h : nilC o.op c = some x) {K : SV → St → Prop} (hK : K x c.st) : SemOp E o c.st K := by
 unfold nilC at h
 split at h
 · rename_i T y T2 ho
   split at h
   · rename_i i r rs hT hy
     split at h
     · rename_i e hk
       injection h with h; subst h
       exact nil_eq ho (by rw [E_tt]; exact hT) hk (by rw [ev_st]; exact hy) (fun e => by cases e) hK
     · cases h
   · cases h
 · cases h
def opB (P : Par) (st : Bool) (o : Oper) (c : CS) : Option (SV × CS) := match epopC P.cl st o.dst o.op c with
 | some r => some r
 | none => match mgC o.op c with
   | some x => some (x, c)
   | none => match nilC o.op c with
     | some x => some (x, c)
     | none => none
def opC (P : Par) (h : Hint) (st : Bool) (o : Oper) (c : CS) : Option (SV × CS) := match h.inl with
 | [] => opB P st o c
 | l => match o.op with
   | .call k => match k.callee with
     | .value f => match evC c f with
       | .sh (.fn g caps) => cond (nmem g l) (P.ci g (k.args.toList.map (evC c) ++ caps.map .sh) o.dst c) (epopC P.cl st o.dst o.op c)
       | _ => none
     | _ => epopC P.cl st o.dst o.op c
   | _ => opB P st o c
structure POk (P : Par) : Prop where
 cl : ∀ g vs d, P.cl g vs = some d → Con E g vs d
 ci : ∀ (o : Oper) (k : Call) (f : Operand) (g : Nat) (caps : List PV) (c c' : CS) (x : SV), o.op = .call k → k.callee = .value f → evC c f = .sh (.fn g caps) → P.ci g (k.args.toList.map (evC c) ++ caps.map .sh) o.dst c = some (x, c') →
   ∀ K : SV → St → Prop, K x c'.st → SemOp E o c.st K
theorem opB_sound {P : Par} (hP : POk P) {st : Bool} {o : Oper} {c c' : CS} {x : SV} (hh : opB P st o c = some (x, c')) {K : SV → St → Prop} (hK : K x c'.st) : epop E o.dst o.op c.st K ∨ SemOp E o c.st K := by
 unfold opB at hh
 split at hh
 · rename_i r hr
   injection hh with hh; subst hh
   exact .inl (epopC_sound hP.cl hr hK)
 · split at hh
   · rename_i y hy
     injection hh with hh; injection hh with h1 h2; subst h1; subst h2
     exact .inr (mgC_sound hy hK)
   · split at hh
     · rename_i y hy
       injection hh with hh; injection hh with h1 h2; subst h1; subst h2
       exact .inr (nilC_sound hy hK)
     · cases hh
theorem opC_sound {P : Par} (hP : POk P) {h : Hint} {st : Bool} {o : Oper} {c c' : CS} {x : SV} (hh : opC P h st o c = some (x, c')) {K : SV → St → Prop} (hK : K x c'.st) : epop E o.dst o.op c.st K ∨ SemOp E o c.st K := by
 unfold opC at hh
 split at hh
 · exact opB_sound hP hh hK
 · split at hh
   · rename_i k ho
     split at hh
     · rename_i f hf
       split at hh
       · rename_i g caps hg
         cases hm : nmem g h.inl with
         | true =>
           rw [hm] at hh
           exact .inr (hP.ci o k f g caps c c' x ho hf hg hh K hK)
         | false =>
           rw [hm] at hh
           exact .inl (epopC_sound hP.cl hh hK)
       · cases hh
     · exact .inl (epopC_sound hP.cl hh hK)
   · exact opB_sound hP hh hK
def opsC (P : Par) (h : Hint) (st : Bool) (ops : Array Oper) : List Oper → CS → Option CS
 | [], c => some c
 | o :: rest, c => match o.guard with
   | none => match opC P h st o c with
     | some (x, c') => opsC P h st ops rest (c'.put o.dst x)
     | none => none
   | some (j, want) => match gslot ops j with
     | some t => match c.gt t with
       | .sh (.val (.bool b)) => cond (b == want) (match epopC P.cl st o.dst o.op c with
         | some (x, c') => opsC P h st ops rest (c'.put o.dst x)
         | none => none) (opsC P h st ops rest (c.put o.dst (.sh (.val undef))))
       | .sh (.val (.tuple _)) => opsC P h st ops rest (c.put o.dst (.sh (.val undef)))
       | _ => none
     | none => none
theorem guard_cases {b want : Bool} {A B : Prop} (h1 : (b == want) = true → A) (h2 : (b == want) = false → B) : (b = want → A) ∧ (b = !want → B) := by
 refine ⟨fun e => h1 (by simp [e]), fun e => h2 ?_⟩
 subst e
 cases want <;> rfl
theorem opsC_sound {P : Par} (hP : POk P) {h : Hint} {st : Bool} {ops : Array Oper} : ∀ {l : List Oper} {c c' : CS}, opsC P h st ops l c = some c' → ∀ {K : St → Prop}, K c'.st → pops E ops l K c.st
 | [], c, c', hh, K, hK => by injection hh with hh; subst hh; exact hK
 | o :: rest, c, c', hh, K, hK => by
   simp only [opsC] at hh
   simp only [pops]
   split at hh
   · rename_i hg
     simp only [hg]
     split at hh
     · rename_i x c1 h1
       have := opsC_sound hP hh hK
       rw [CS.put_st] at this
       exact opC_sound hP h1 this
     · cases hh
   · rename_i j want hg
     simp only [hg]
     split at hh
     · rename_i t ht
       simp only [ht, CS.gt_st]
       split at hh
       · rename_i b hb
         simp only [hb]
         refine guard_cases (fun e => ?_) (fun e => ?_)
         · rw [e] at hh
           simp only [cond_true] at hh
           split at hh
           · rename_i x c1 h1
             have := opsC_sound hP hh hK
             rw [CS.put_st] at this
             exact epopC_sound hP.cl h1 this
           · cases hh
         · rw [e] at hh
           simp only [cond_false] at hh
           have := opsC_sound hP hh hK
           rw [CS.put_st] at this
           exact this
       · rename_i vs hb
         simp only [hb]
         have := opsC_sound hP hh hK
         rw [CS.put_st] at this
         exact this
       · cases hh
     · cases hh
def pdrC (P : Par) (h : Hint) (st : Bool) (ops : Array Oper) : List Oper → CS → Option CS
 | [], c => some c
 | o :: rest, c => cond (isEff o.op) (opsC P h st ops (o :: rest) c) (match o.guard with
   | none => match popC P.cl o.op c with
     | some x => pdrC P h st ops rest (c.put o.dst x)
     | none => none
   | some (j, want) => match gslot ops j with
     | some t => match c.gt t with
       | .sh (.val (.bool b)) => cond (b == want) (match popC P.cl o.op c with
         | some x => pdrC P h st ops rest (c.put o.dst x)
         | none => none) (pdrC P h st ops rest (c.put o.dst (.sh (.val undef))))
       | .sh (.val (.tuple _)) => pdrC P h st ops rest (c.put o.dst (.sh (.val undef)))
       | _ => none
     | none => none)
theorem pdrC_sound {P : Par} (hP : POk P) {h : Hint} {st : Bool} {ops : Array Oper} : ∀ {l : List Oper} {c c' : CS}, pdrC P h st ops l c = some c' → ∀ {K : St → Prop}, K c'.st → pdr E ops l K c.st
 | [], c, c', hh, K, hK => by injection hh with hh; subst hh; exact hK
 | o :: rest, c, c', hh, K, hK => by
   simp only [pdrC] at hh
   simp only [pdr]
   cases he : isEff o.op with
   | true =>
     rw [he] at hh
     simp only [cond_true] at hh
     simp only [if_true]
     exact opsC_sound hP hh hK
   | false =>
     rw [he] at hh
     simp only [cond_false] at hh
     simp only [Bool.false_eq_true, if_false]
     split at hh
     · rename_i hg
       simp only [hg]
       split at hh
       · rename_i x h1
         have := pdrC_sound hP hh hK
         rw [CS.put_st] at this
         exact popC_sound hP.cl h1 this
       · cases hh
     · rename_i j want hg
       simp only [hg]
       split at hh
       · rename_i t ht
         simp only [ht, CS.gt_st]
         split at hh
         · rename_i b hb
           simp only [hb]
           refine guard_cases (fun e => ?_) (fun e => ?_)
           · rw [e] at hh
             simp only [cond_true] at hh
             split at hh
             · rename_i x h1
               have := pdrC_sound hP hh hK
               rw [CS.put_st] at this
               exact popC_sound hP.cl h1 this
             · cases hh
           · rw [e] at hh
             simp only [cond_false] at hh
             have := pdrC_sound hP hh hK
             rw [CS.put_st] at this
             exact this
         · rename_i vs hb
           simp only [hb]
           have := pdrC_sound hP hh hK
           rw [CS.put_st] at this
           exact this
         · cases hh
       · cases hh
def chkC (P : Par) (ops : Array Oper) (i : Nat) (c : CS) : Bool := match ops[i]? with
 | some o => match o.dst with
   | some d => match popC P.cl o.op c with
     | some x => SV.eqb x (c.gt d)
     | none => false
   | none => false
 | none => false
def chksC (P : Par) (ops : Array Oper) : List Nat → CS → Bool
 | [], _ => true
 | i :: l, c => chkC P ops i c && chksC P ops l c
theorem chksC_sound {P : Par} (hP : POk P) {ops : Array Oper} {c : CS} : ∀ {l : List Nat}, chksC P ops l c = true → chks E ops l c.st
 | [], _ => trivial
 | i :: l, h => by
   simp only [chksC, Bool.and_eq_true] at h
   refine ⟨?_, chksC_sound hP h.2⟩
   have h1 := h.1
   unfold chkC at h1
   split at h1
   · rename_i o ho
     split at h1
     · rename_i d hd
       split at h1
       · rename_i x hx
         exact ⟨o, d, ho, hd, popC_sound hP.cl hx (by rw [CS.gt_st]; exact SV.eqb_eq h1)⟩
       · cases h1
     · cases h1
   · cases h1
def hdR : List (List Nat) → List Nat
 | [] => []
 | x :: _ => x
def tlR : List (List Nat) → List (List Nat)
 | [] => []
 | _ :: l => l
theorem hdR_eq (R : List (List Nat)) : R.headD [] = hdR R := by cases R <;> rfl
theorem tlR_eq (R : List (List Nat)) : R.tail = tlR R := by cases R <;> rfl
def ptlC (P : Par) (h : Hint) (st : Bool) (ops : Array Oper) : List (List Nat) → List Oper → CS → Option CS
 | _, [], c => some c
 | R, o :: rest, c => match o.guard with
   | none => match opC P h st o c with
     | some (x, c') => cond (chksC P ops (hdR R) (c'.put o.dst x)) (ptlC P h st ops (tlR R) rest (c'.put o.dst x)) none
     | none => none
   | some (j, want) => match gslot ops j with
     | some t => match c.gt t with
       | .sh (.val (.bool b)) => cond (b == want) (match epopC P.cl st o.dst o.op c with
         | some (x, c') => cond (chksC P ops (hdR R) (c'.put o.dst x)) (ptlC P h st ops (tlR R) rest (c'.put o.dst x)) none
         | none => none) (cond (chksC P ops (hdR R) (c.put o.dst (.sh (.val undef)))) (ptlC P h st ops (tlR R) rest (c.put o.dst (.sh (.val undef)))) none)
       | _ => none
     | none => none
theorem ptlC_sound {P : Par} (hP : POk P) {h : Hint} {st : Bool} {ops : Array Oper} : ∀ {l : List Oper} {R : List (List Nat)} {c c' : CS}, ptlC P h st ops R l c = some c' → ∀ {K : St → Prop}, K c'.st → ptl E ops R l K c.st
 | [], R, c, c', hh, K, hK => by injection hh with hh; subst hh; simp only [ptl]; exact hK
 | o :: rest, R, c, c', hh, K, hK => by
   have fin : ∀ {c1 : CS}, cond (chksC P ops (hdR R) c1) (ptlC P h st ops (tlR R) rest c1) none = some c' → chks E ops (R.headD []) c1.st ∧ ptl E ops R.tail rest K c1.st := by
     intro c1 h1
     cases hc : chksC P ops (hdR R) c1 with
     | false => rw [hc] at h1; cases h1
     | true =>
       rw [hc] at h1
       rw [hdR_eq, tlR_eq]
       exact ⟨chksC_sound hP hc, ptlC_sound hP h1 hK⟩
   simp only [ptlC] at hh
   simp only [ptl]
   split at hh
   · rename_i hg
     simp only [hg]
     split at hh
     · rename_i x c1 h1
       have := fin hh
       rw [CS.put_st] at this
       exact opC_sound hP h1 this
     · cases hh
   · rename_i j want hg
     simp only [hg]
     split at hh
     · rename_i t ht
       simp only [ht, CS.gt_st]
       split at hh
       · rename_i b hb
         simp only [hb]
         refine guard_cases (fun e => ?_) (fun e => ?_)
         · rw [e] at hh
           simp only [cond_true] at hh
           split at hh
           · rename_i x c1 h1
             have := fin hh
             rw [CS.put_st] at this
             exact epopC_sound hP.cl h1 this
           · cases hh
         · rw [e] at hh
           simp only [cond_false] at hh
           have := fin hh
           rw [CS.put_st] at this
           exact this
       · cases hh
     · cases hh
def recC (c : CS) (p : Nat × List Value) : CS := (c.make p.1 (.box (p.2.map fun v => .sh (.val v)))).put (some p.1) (.bp p.1 0)
def recsC : List (Nat × List Value) → CS → CS
 | [], c => c
 | p :: l, c => recsC l (recC c p)
theorem recsC_st : ∀ (l : List (Nat × List Value)) (c : CS), (recsC l c).st = l.foldl recS c.st
 | [], c => rfl
 | p :: l, c => by
   rw [recsC, recsC_st l, List.foldl_cons]
   congr 1
   rw [recC, CS.put_st, CS.make_st]; rfl
def valsC : List SV → Option (List Value)
 | [] => some []
 | .sh (.val v) :: l => (valsC l).map fun m => v :: m
 | _ :: _ => none
theorem valsC_eq : ∀ {l : List SV} {vs : List Value}, valsC l = some vs → l = vs.map fun v => .sh (.val v)
 | [], vs, h => by injection h with h; subst h; rfl
 | .sh d :: l, vs, h => by
   cases d with
   | val v =>
     simp only [valsC] at h
     obtain ⟨m, hm, rfl⟩ := Option.map_eq_some_iff.1 h
     rw [valsC_eq hm]; rfl
   | _ => cases h
 | .bp .. :: _, vs, h => by cases h
 | .rp .. :: _, vs, h => by cases h
 | .row _ :: _, vs, h => by cases h
 | .sub .. :: _, vs, h => by cases h
 | .mr _ :: _, vs, h => by cases h
 | .mg .. :: _, vs, h => by cases h
def astC (op : Op) (c : CS) : Option (List Value) := match op with
 | .alloc T => match tt T with
   | some i => some i.zero
   | none => none
 | .box _ x => match (evC c x).cells with
   | some cs => match valsC cs with
     | some vs => cond (vs.all (·.oneCell')) (some vs) none
     | none => none
   | none => none
 | _ => none
theorem astC_sound {o : Oper} {c : CS} {vs : List Value} (h : astC o.op c = some vs) : AStp E o c.st vs := by
 unfold astC at h
 unfold AStp
 split at h
 · rename_i T ho
   simp only [ho]
   split at h
   · rename_i i hi
     injection h with h
     exact ⟨i, hi, h.symm⟩
   · cases h
 · rename_i T y ho
   simp only [ho, ev_st]
   split at h
   · rename_i cs hcs
     split at h
     · rename_i ws hws
       cases ha : ws.all (·.oneCell') with
       | false => rw [ha] at h; cases h
       | true =>
         rw [ha] at h
         injection h with h; subst h
         exact ⟨by rw [hcs, valsC_eq hws], ha⟩
     · cases h
   · cases h
 · cases h
def pfrC (P : Par) (h : Hint) (st : Bool) (ops : Array Oper) (fls : List Nat) (R : List (List Nat)) : Nat → Nat → List Oper → List (Nat × List Value) → CS → Option CS
 | 0, _, l, av, c => cond (chksC P ops fls (recsC av c)) (ptlC P h st ops R l (recsC av c)) none
 | _ + 1, _, [], _, _ => none
 | m + 1, k, o :: rest, av, c => cond (isA ops k) (match o.dst, astC o.op c with
     | some d, some vs => pfrC P h st ops fls R m (k + 1) rest (av ++ [(d, vs)]) (c.put o.dst (.sh .any))
     | _, _ => none) (match o.guard with
   | none => match popC P.cl o.op c with
     | some x => pfrC P h st ops fls R m (k + 1) rest av (c.put o.dst x)
     | none => none
   | some (j, want) => match gslot ops j with
     | some t => match c.gt t with
       | .sh (.val (.bool b)) => cond (b == want) (match popC P.cl o.op c with
         | some x => pfrC P h st ops fls R m (k + 1) rest av (c.put o.dst x)
         | none => none) (pfrC P h st ops fls R m (k + 1) rest av (c.put o.dst (.sh (.val undef))))
       | .sh (.val (.tuple _)) => pfrC P h st ops fls R m (k + 1) rest av (c.put o.dst (.sh (.val undef)))
       | _ => none
     | none => none)
theorem pfrC_sound {P : Par} (hP : POk P) {h : Hint} {st : Bool} {ops : Array Oper} {fls : List Nat} {R : List (List Nat)} : ∀ {m k : Nat} {l : List Oper} {av : List (Nat × List Value)} {c c' : CS}, pfrC P h st ops fls R m k l av c = some c' → ∀ {K : St → Prop}, K c'.st → pfr E ops fls R m k l av K c.st
 | 0, k, l, av, c, c', hh, K, hK => by
   simp only [pfrC] at hh
   simp only [pfr]
   rw [← recsC_st]
   cases hc : chksC P ops fls (recsC av c) with
   | false => rw [hc] at hh; cases hh
   | true =>
     rw [hc] at hh
     exact ⟨chksC_sound hP hc, ptlC_sound hP hh hK⟩
 | m + 1, k, [], av, c, c', hh, K, hK => by cases hh
 | m + 1, k, o :: rest, av, c, c', hh, K, hK => by
   simp only [pfrC] at hh
   simp only [pfr]
   cases hA : isA ops k with
   | true =>
     rw [hA] at hh
     simp only [cond_true] at hh
     simp only [if_true]
     split at hh
     · rename_i d vs hd hv
       have := pfrC_sound hP hh hK
       rw [CS.put_st] at this
       exact ⟨d, vs, hd, astC_sound hv, this⟩
     · cases hh
   | false =>
     rw [hA] at hh
     simp only [cond_false] at hh
     simp only [Bool.false_eq_true, if_false]
     split at hh
     · rename_i hg
       simp only [hg]
       split at hh
       · rename_i x h1
         have := pfrC_sound hP hh hK
         rw [CS.put_st] at this
         exact popC_sound hP.cl h1 this
       · cases hh
     · rename_i j want hg
       simp only [hg]
       split at hh
       · rename_i t ht
         simp only [ht, CS.gt_st]
         split at hh
         · rename_i b hb
           simp only [hb]
           refine guard_cases (fun e => ?_) (fun e => ?_)
           · rw [e] at hh
             simp only [cond_true] at hh
             split at hh
             · rename_i x h1
               have := pfrC_sound hP hh hK
               rw [CS.put_st] at this
               exact popC_sound hP.cl h1 this
             · cases hh
           · rw [e] at hh
             simp only [cond_false] at hh
             have := pfrC_sound hP hh hK
             rw [CS.put_st] at this
             exact this
         · rename_i vs hb
           simp only [hb]
           have := pfrC_sound hP hh hK
           rw [CS.put_st] at this
           exact this
         · cases hh
       · cases hh
def stepxC (P : Par) (h : Hint) (st : Bool) (ops : Array Oper) (i : Nat) (N : CS → Option CS) (c : CS) : Option CS := match ops[i]? with
 | some o => match o.guard with
   | none => match opC P h st o c with
     | some (x, c') => N (c'.put o.dst x)
     | none => none
   | some (j, want) => match gslot ops j with
     | some t => match c.gt t with
       | .sh (.val (.bool b)) => cond (b == want) (match epopC P.cl st o.dst o.op c with
         | some (x, c') => N (c'.put o.dst x)
         | none => none) (N (c.put o.dst (.sh (.val undef))))
       | _ => none
     | none => none
 | none => none
theorem stepxC_sound {P : Par} (hP : POk P) {h : Hint} {st : Bool} {ops : Array Oper} {i : Nat} {N : CS → Option CS} {c r : CS} (hh : stepxC P h st ops i N c = some r) {F : St → Prop} (hN : ∀ c', N c' = some r → F c'.st) : stepx E ops i F c.st := by
 unfold stepxC at hh
 split at hh
 · rename_i o ho
   refine ⟨o, ho, ?_⟩
   split at hh
   · rename_i hg
     simp only [hg]
     split at hh
     · rename_i x c1 h1
       have := hN _ hh
       rw [CS.put_st] at this
       exact opC_sound hP h1 this
     · cases hh
   · rename_i j want hg
     simp only [hg]
     split at hh
     · rename_i t ht
       simp only [ht, CS.gt_st]
       split at hh
       · rename_i b hb
         simp only [hb]
         refine guard_cases (fun e => ?_) (fun e => ?_)
         · rw [e] at hh
           simp only [cond_true] at hh
           split at hh
           · rename_i x c1 h1
             have := hN _ hh
             rw [CS.put_st] at this
             exact epopC_sound hP.cl h1 this
           · cases hh
         · rw [e] at hh
           simp only [cond_false] at hh
           have := hN _ hh
           rw [CS.put_st] at this
           exact this
       · cases hh
     · cases hh
 · cases hh
def pickC (g : Nat → Option (Option CS)) : List Nat → Option CS → Option CS
 | [], acc => acc
 | i :: l, acc => match g i with
   | none => pickC g l acc
   | some none => none
   | some (some c) => match acc with
     | none => pickC g l (some c)
     | some c0 => cond (CS.eqb c0 c) (pickC g l (some c0)) none
theorem pickC_sound {g : Nat → Option (Option CS)} : ∀ {l : List Nat} {acc : Option CS} {r : CS}, pickC g l acc = some r → (∀ c0, acc = some c0 → c0.st = r.st) ∧ ∀ i ∈ l, ∀ y, g i = some y → ∃ c, y = some c ∧ c.st = r.st
 | [], acc, r, h => by
   simp only [pickC] at h
   subst h
   exact ⟨fun c0 e => by injection e with e; rw [e], fun i hi => by cases hi⟩
 | i :: l, acc, r, h => by
   simp only [pickC] at h
   split at h
   · rename_i hg
     obtain ⟨h1, h2⟩ := pickC_sound h
     refine ⟨h1, fun j hj y hy => ?_⟩
     rcases List.mem_cons.1 hj with rfl | hj
     · rw [hg] at hy; cases hy
     · exact h2 j hj y hy
   · cases h
   · rename_i c hg
     split at h
     · obtain ⟨h1, h2⟩ := pickC_sound h
       refine ⟨fun c0 e => (by cases e), fun j hj y hy => ?_⟩
       rcases List.mem_cons.1 hj with rfl | hj
       · rw [hg] at hy; injection hy with hy
         exact ⟨c, hy.symm, h1 c rfl⟩
       · exact h2 j hj y hy
     · rename_i c0
       cases he : CS.eqb c0 c with
       | false => rw [he] at h; cases h
       | true =>
         rw [he] at h
         obtain ⟨h1, h2⟩ := pickC_sound h
         refine ⟨fun c1 e => h1 c1 e, fun j hj y hy => ?_⟩
         rcases List.mem_cons.1 hj with rfl | hj
         · rw [hg] at hy; injection hy with hy
           exact ⟨c, hy.symm, by rw [← CS.eqb_st he]; exact h1 c0 rfl⟩
         · exact h2 j hj y hy
def nthR : List (List Nat) → Nat → List Nat
 | [], _ => []
 | x :: l, i => match i with
   | 0 => x
   | i + 1 => nthR l i
theorem nthR_eq : ∀ (R : List (List Nat)) (i : Nat), R.getD i [] = nthR R i
 | [], i => rfl
 | x :: l, 0 => rfl
 | x :: l, i + 1 => nthR_eq l i
def ptxC (P : Par) (h : Hint) (st : Bool) (ops : Array Oper) (m : Nat) (R : List (List Nat)) : Nat → List Nat → CS → Option CS
 | 0, _, c => some c
 | k + 1, W, c => pickC (fun i => cond (rdyT ops m W i) (some (stepxC P h st ops i (fun c' => cond (chksC P ops (nthR R (i - m)) c') (ptxC P h st ops m R k (W.filter fun q => decide (q ≠ i)) c') none) c)) none) W none
theorem ptxC_sound {P : Par} (hP : POk P) {h : Hint} {st : Bool} {ops : Array Oper} {m : Nat} {R : List (List Nat)} : ∀ {k : Nat} {W : List Nat} {c r : CS}, ptxC P h st ops m R k W c = some r → ∀ {K : St → Prop}, K r.st → ptx E ops m R k W K c.st
 | 0, W, c, r, hh, K, hK => by injection hh with hh; subst hh; exact hK
 | k + 1, W, c, r, hh, K, hK => by
   intro i hi hr
   simp only [ptxC] at hh
   obtain ⟨y, hy, hyr⟩ := (pickC_sound hh).2 i hi _ (by rw [hr]; rfl)
   refine stepxC_sound hP hy (fun c' hc' => ?_)
   cases hc : chksC P ops (nthR R (i - m)) c' with
   | false => rw [hc] at hc'; cases hc'
   | true =>
     rw [hc] at hc'
     rw [nthR_eq]
     exact ⟨chksC_sound hP hc, ptxC_sound hP hc' (by rw [hyr]; exact hK)⟩
def pfxC (P : Par) (h : Hint) (st : Bool) (ops : Array Oper) (fls : List Nat) (R : List (List Nat)) (m0 : Nat) : Nat → Nat → List Oper → List (Nat × List Value) → CS → Option CS
 | 0, _, l, av, c => cond (chksC P ops fls (recsC av c)) (ptxC P h st ops m0 R (ops.size - m0) (List.range' m0 (ops.size - m0)) (recsC av c)) none
 | _ + 1, _, [], _, _ => none
 | m + 1, k, o :: rest, av, c => cond (isA ops k) (match o.dst, astC o.op c with
     | some d, some vs => pfxC P h st ops fls R m0 m (k + 1) rest (av ++ [(d, vs)]) (c.put o.dst (.sh .any))
     | _, _ => none) (match o.guard with
   | none => match popC P.cl o.op c with
     | some x => pfxC P h st ops fls R m0 m (k + 1) rest av (c.put o.dst x)
     | none => none
   | some (j, want) => match gslot ops j with
     | some t => match c.gt t with
       | .sh (.val (.bool b)) => cond (b == want) (match popC P.cl o.op c with
         | some x => pfxC P h st ops fls R m0 m (k + 1) rest av (c.put o.dst x)
         | none => none) (pfxC P h st ops fls R m0 m (k + 1) rest av (c.put o.dst (.sh (.val undef))))
       | .sh (.val (.tuple _)) => pfxC P h st ops fls R m0 m (k + 1) rest av (c.put o.dst (.sh (.val undef)))
       | _ => none
     | none => none)
theorem pfxC_sound {P : Par} (hP : POk P) {h : Hint} {st : Bool} {ops : Array Oper} {fls : List Nat} {R : List (List Nat)} {m0 : Nat} : ∀ {m k : Nat} {l : List Oper} {av : List (Nat × List Value)} {c c' : CS}, pfxC P h st ops fls R m0 m k l av c = some c' → ∀ {K : St → Prop}, K c'.st → pfx E ops fls R m0 m k l av K c.st
 | 0, k, l, av, c, c', hh, K, hK => by
   simp only [pfxC] at hh
   simp only [pfx]
   rw [← recsC_st]
   cases hc : chksC P ops fls (recsC av c) with
   | false => rw [hc] at hh; cases hh
   | true =>
     rw [hc] at hh
     exact ⟨chksC_sound hP hc, ptxC_sound hP hh hK⟩
 | m + 1, k, [], av, c, c', hh, K, hK => by cases hh
 | m + 1, k, o :: rest, av, c, c', hh, K, hK => by
   simp only [pfxC] at hh
   simp only [pfx]
   cases hA : isA ops k with
   | true =>
     rw [hA] at hh
     simp only [cond_true] at hh
     simp only [if_true]
     split at hh
     · rename_i d vs hd hv
       have := pfxC_sound hP hh hK
       rw [CS.put_st] at this
       exact ⟨d, vs, hd, astC_sound hv, this⟩
     · cases hh
   | false =>
     rw [hA] at hh
     simp only [cond_false] at hh
     simp only [Bool.false_eq_true, if_false]
     split at hh
     · rename_i hg
       simp only [hg]
       split at hh
       · rename_i x h1
         have := pfxC_sound hP hh hK
         rw [CS.put_st] at this
         exact popC_sound hP.cl h1 this
       · cases hh
     · rename_i j want hg
       simp only [hg]
       split at hh
       · rename_i t ht
         simp only [ht, CS.gt_st]
         split at hh
         · rename_i b hb
           simp only [hb]
           refine guard_cases (fun e => ?_) (fun e => ?_)
           · rw [e] at hh
             simp only [cond_true] at hh
             split at hh
             · rename_i x h1
               have := pfxC_sound hP hh hK
               rw [CS.put_st] at this
               exact popC_sound hP.cl h1 this
             · cases hh
           · rw [e] at hh
             simp only [cond_false] at hh
             have := pfxC_sound hP hh hK
             rw [CS.put_st] at this
             exact this
         · rename_i vs hb
           simp only [hb]
           have := pfxC_sound hP hh hK
           rw [CS.put_st] at this
           exact this
         · cases hh
       · cases hh
def goC (P : Par) (h : Hint) (st : Bool) (ops : Array Oper) (dr : Bool) (c : CS) : Option CS := cond dr (match h.dr with
 | none => pdrC P h st ops ops.toList c
 | some (m, fls, R) => cond h.x (pfxC P h st ops fls R m m 0 ops.toList [] c) (pfrC P h st ops fls R m 0 ops.toList [] c)) (opsC P h st ops ops.toList c)
def regChk (h : Hint) (ops : Array Oper) (dr : Bool) : Bool := cond dr (match h.dr with
 | none => drawOk ops (effAt ops.toList)
 | some (m, fls, R) => cond h.x (drawOk3 ops m fls R) (drawOk2 ops m fls R)) true
theorem goC_sound {P : Par} (hP : POk P) {h : Hint} {st : Bool} {id : Nat} {ops : Array Oper} {dr : Bool} {c c' : CS} (hk : regChk h ops dr = true) (hh : goC P h st ops dr c = some c') {Q : Exit → St → Prop} (hK : Q .normal c'.st) : pwp E (.region id ops dr) Q c.st := by
 unfold goC at hh
 unfold regChk at hk
 cases dr with
 | false =>
   exact p_reg (opsC_sound hP hh hK)
 | true =>
   simp only [cond_true] at hh hk
   split at hh
   · rename_i hd
     simp only [hd] at hk
     exact p_drw hk (pdrC_sound hP hh hK)
   · rename_i m fls R hd
     simp only [hd] at hk
     cases hx : h.x with
     | true =>
       rw [hx] at hh hk
       refine p_sem (fun w0 A0 n Q' a w loc hok hn hinv hQ => ?_)
       simp only [codeOk] at hok
       refine draw3_sound mixed hk hinv (fun o ho t ht => ?_) (pfxC_sound hP hh hK) (fun τ a' w' loc' h1 h2 h3 h4 => hQ _ τ a' w' loc' h1 h2 (h3.trans hn) (fun q => h4 (by rw [hn]; exact q)))
       have := List.all_eq_true.1 hok o ho
       rw [ht] at this
       rw [hn]; simpa using this
     | false =>
       rw [hx] at hh hk
       exact p_drw2 m fls R hk (pfrC_sound hP hh hK)
def regC (P : Par) (h : Hint) (ops : Array Oper) (dr : Bool) (c : CS) : Option CS := match h.t2 with
 | [] => goC P h false ops dr (sharesW h.pre c)
 | ks => match goC P h true ops dr (sharesW h.pre c) with
   | some r => some r
   | none => goC P h false ops dr (sharesW ks (sharesW h.pre c))
theorem regC_sound {P : Par} (hP : POk P) {h : Hint} {id : Nat} {ops : Array Oper} {dr : Bool} {c c' : CS} (hk : regChk h ops dr = true) (hh : regC P h ops dr c = some c') {Q : Exit → St → Prop} (hK : Q .normal c'.st) : pwp E (.region id ops dr) Q c.st := by
 unfold regC at hh
 split at hh
 · exact p_wk (sharesW_weak _ _) (goC_sound hP hk hh hK)
 · split at hh
   · rename_i r hr
     injection hh with hh; subst hh
     exact p_wk (sharesW_weak _ _) (goC_sound hP hk hr hK)
   · exact p_wk ((sharesW_weak _ _).trans (sharesW_weak _ _)) (goC_sound hP hk hh hK)
def hget : List (Nat × Hint) → Nat → Hint
 | [], _ => {}
 | (k, h) :: l, i => cond (Nat.beq k i) h (hget l i)
def iterC (f : CS → Option (Exit × CS)) : Nat → CS → Option (Exit × CS)
 | 0, _ => none
 | n + 1, c => match f c with
   | some (.normal, c') => iterC f n c'
   | r => r
def runC (P : Par) (hs : List (Nat × Hint)) (n : Nat) : Code → CS → Option (Exit × CS)
 | .skip, c => some (.normal, c)
 | .label _, c => some (.normal, c)
 | .region id ops dr, c => match regC P (hget hs id) ops dr c with
   | some c' => some (.normal, c')
   | none => none
 | .seq x y, c => match runC P hs n x c with
   | some (.normal, c') => runC P hs n y c'
   | r => r
 | .cond q x y, c => match evC c q with
   | .sh (.val (.bool b)) => cond b (runC P hs n x c) (runC P hs n y c)
   | _ => none
 | .block id x, c => match runC P hs n x c with
   | some (.exit i, c') => cond (Nat.beq i id) (some (.normal, c')) (some (.exit i, c'))
   | r => r
 | .loop x, c => iterC (runC P hs n x) n c
 | .exit id, c => some (.exit id, c)
 | .ret, c => some (.ret, c)
 | _, _ => none
def codeChk (hs : List (Nat × Hint)) : Code → Bool
 | .region id ops dr => regChk (hget hs id) ops dr
 | .seq x y => codeChk hs x && codeChk hs y
 | .cond _ x y => codeChk hs x && codeChk hs y
 | .block _ x => codeChk hs x
 | .loop x => codeChk hs x
 | _ => true
theorem iterC_pwp {x : Code} {f : CS → Option (Exit × CS)} (hf : ∀ c e c', f c = some (e, c') → ∀ Q : Exit → St → Prop, Q e c'.st → pwp E x Q c.st) {n : Nat} {c c' : CS} {e : Exit} (h : iterC f n c = some (e, c')) {Q : Exit → St → Prop} (hQ : Q e c'.st) : pwp E (.loop x) Q c.st := by
 refine ⟨fun m τ => ∃ c1, τ = c1.st ∧ iterC f m c1 = some (e, c'), n, c.st, Weak.refl _, ⟨c, rfl, h⟩, ?_⟩
 rintro m τ ⟨c1, rfl, h1⟩
 cases m with
 | zero => cases h1
 | succ m =>
   simp only [iterC] at h1
   split at h1
   · rename_i c2 h2
     exact hf _ _ _ h2 _ ⟨m, c2.st, Nat.lt_succ_self m, Weak.refl _, c2, rfl, h1⟩
   · rename_i hne
     refine hf _ _ _ h1 _ ?_
     cases e with
     | normal => exact (hne _ h1).elim
     | _ => exact hQ
theorem runC_sound {P : Par} (hP : POk P) {hs : List (Nat × Hint)} {n : Nat} : ∀ (x : Code), codeChk hs x = true → ∀ (c : CS) (e : Exit) (c' : CS), runC P hs n x c = some (e, c') → ∀ Q : Exit → St → Prop, Q e c'.st → pwp E x Q c.st := by
 intro x
 induction x with
 | skip => intro _ c e c' h Q hQ; injection h with h; injection h with h1 h2; subst h1; subst h2; exact hQ
 | label l => intro _ c e c' h Q hQ; injection h with h; injection h with h1 h2; subst h1; subst h2; exact hQ
 | region id ops dr =>
   intro hk c e c' h Q hQ
   simp only [runC] at h
   split at h
   · rename_i c1 h1
     injection h with h; injection h with h2 h3; subst h2; subst h3
     exact regC_sound hP hk h1 hQ
   · cases h
 | seq x y ihx ihy =>
   intro hk c e c' h Q hQ
   simp only [codeChk, Bool.and_eq_true] at hk
   simp only [runC] at h
   simp only [pwp]
   split at h
   · rename_i c1 h1
     exact ihx hk.1 _ _ _ h1 _ (ihy hk.2 _ _ _ h _ hQ)
   · rename_i hne
     refine ihx hk.1 _ _ _ h _ ?_
     cases e with
     | normal => exact (hne _ h).elim
     | _ => exact hQ
 | cond q x y ihx ihy =>
   intro hk c e c' h Q hQ
   simp only [codeChk, Bool.and_eq_true] at hk
   simp only [runC] at h
   simp only [pwp, ev_st]
   split at h
   · rename_i b hb
     simp only [hb]
     cases b with
     | true => exact ⟨fun _ => ihx hk.1 _ _ _ h _ hQ, fun e => (by cases e)⟩
     | false => exact ⟨fun e => (by cases e), fun _ => ihy hk.2 _ _ _ h _ hQ⟩
   · cases h
 | block id x ih =>
   intro hk c e c' h Q hQ
   simp only [runC] at h
   simp only [pwp]
   split at h
   · rename_i i c1 h1
     refine ih hk _ _ _ h1 _ ?_
     simp only
     cases hb : Nat.beq i id with
     | true =>
       rw [hb] at h
       injection h with h; injection h with h2 h3; subst h2; subst h3
       rw [if_pos (Nat.eq_of_beq_eq_true hb)]; exact hQ
     | false =>
       rw [hb] at h
       injection h with h; injection h with h2 h3; subst h2; subst h3
       rw [if_neg (Nat.ne_of_beq_eq_false hb)]; exact hQ
   · rename_i hne
     refine ih hk _ _ _ h _ ?_
     cases e with
     | exit i => exact (hne _ _ h).elim
     | _ => exact hQ
 | loop x ih =>
   intro hk c e c' h Q hQ
   exact iterC_pwp (fun c e c' h Q hQ => ih hk c e c' h Q hQ) h hQ
 | exit id => intro _ c e c' h Q hQ; injection h with h; injection h with h1 h2; subst h1; subst h2; exact hQ
 | ret => intro _ c e c' h Q hQ; injection h with h; injection h with h1 h2; subst h1; subst h2; exact hQ
 | _ => intro _ c e c' h Q hQ; cases h
def ofL : Nat → List SV → Tr SV → Tr SV
 | _, [], t => t
 | k, x :: xs, t => ofL (k + 1) xs (t.set k x)
theorem ofL_get : ∀ (xs : List SV) (k : Nat) (t : Tr SV) (i : Nat), (∀ i, k ≤ i → t.get i = none) → (ofL k xs t).get i = if k ≤ i then xs[i - k]? else t.get i
 | [], k, t, i, h => by
   simp only [ofL]
   split
   · rename_i hk; rw [h i hk]; simp
   · rfl
 | x :: xs, k, t, i, h => by
   simp only [ofL]
   rw [ofL_get xs (k + 1) _ i (fun j hj => by rw [Tr.get_set, if_neg (by omega)]; exact h j (by omega)), Tr.get_set]
   by_cases h1 : k + 1 ≤ i
   · rw [if_pos h1, if_pos (by omega)]
     obtain ⟨m, hm⟩ : ∃ m, i - k = m + 1 := ⟨i - k - 1, by omega⟩
     rw [hm, List.getElem?_cons_succ]
     congr 1
     omega
   · rw [if_neg h1]
     by_cases h2 : i = k
     · subst h2; simp
     · rw [if_neg h2, if_neg (by omega)]
def initC (vs : List PV) : CS := { s := ofL 0 (vs.map .sh) .lf, o := [] }
theorem initC_st (vs : List PV) : (initC vs).st = initS vs := by
 refine St.ext' (fun i => ?_) (fun k => rfl)
 show ((ofL 0 (vs.map .sh) .lf).get i).getD _ = _
 rw [ofL_get _ _ _ _ (fun _ _ => rfl)]
 simp only [Nat.zero_le, if_true, Nat.sub_zero, List.getElem?_map, initS]
 cases vs[i]? <;> rfl
def enterO : List (Nat × Ob) → List (Nat × Ob)
 | [] => []
 | (k, x) :: r => (k + 1000000, x.re upK) :: enterO r
theorem aget_enterO : ∀ (l : List (Nat × Ob)) (k : Nat), aget (enterO l) k = if 1000000 ≤ k then (aget l (k - 1000000)).map (Ob.re upK) else none
 | [], k => by simp [enterO, aget]
 | (j, x) :: r, k => by
   simp only [enterO, aget_cons, aget_enterO r k]
   by_cases h : k = j + 1000000
   · rw [if_pos h, if_pos (by omega), if_pos (by omega)]; rfl
   · rw [if_neg h]
     by_cases h2 : 1000000 ≤ k
     · rw [if_pos h2, if_pos h2, if_neg (by omega)]
     · rw [if_neg h2, if_neg h2]
def enterC (c : CS) (xs : List SV) : CS := { s := ofL 0 (xs.map (SV.re upK)) .lf, o := enterO c.o }
theorem enterC_st (c : CS) (xs : List SV) : (enterC c xs).st = c.st.enter xs := by
 refine St.ext' (fun i => ?_) (fun k => ?_)
 · show ((ofL 0 (xs.map (SV.re upK)) .lf).get i).getD _ = _
   rw [ofL_get _ _ _ _ (fun _ _ => rfl)]
   simp only [Nat.zero_le, if_true, Nat.sub_zero, List.getElem?_map, St.enter]
   cases xs[i]? <;> rfl
 · exact aget_enterO c.o k
def backO : List (Nat × Ob) → List (Nat × Ob)
 | [] => []
 | (k, x) :: r => cond (Nat.ble 1000000 k) ((k - 1000000, x.re dnK) :: backO r) (backO r)
theorem aget_backO : ∀ (l : List (Nat × Ob)) (k : Nat), aget (backO l) k = (aget l (k + 1000000)).map (Ob.re dnK)
 | [], k => rfl
 | (j, x) :: r, k => by
   simp only [backO, aget_cons]
   cases h : Nat.ble 1000000 j with
   | true =>
     have hj : 1000000 ≤ j := Nat.le_of_ble_eq_true h
     simp only [cond_true, aget_cons, aget_backO r k]
     by_cases e : k = j - 1000000
     · rw [if_pos e, if_pos (by omega)]; rfl
     · rw [if_neg e, if_neg (by omega)]
   | false =>
     have hj : ¬ 1000000 ≤ j := fun h' => by rw [Nat.ble_eq_true_of_le h'] at h; cases h
     simp only [cond_false, aget_backO r k]
     rw [if_neg (by omega)]
def backC (c c' : CS) : CS := { s := c.s, o := backO c'.o }
theorem backC_st (c c' : CS) : (backC c c').st = c.st.back c'.st := St.ext' (fun i => rfl) (fun k => aget_backO c'.o k)
def backFO (j d : Nat) : List (Nat × Ob) → List (Nat × Ob)
 | [] => []
 | (k, x) :: r => cond (Nat.beq k j) ((d, x.re (fK j d)) :: backFO j d r) (cond (Nat.beq k (d + 1000000)) (backFO j d r) (cond (Nat.ble 1000000 k) ((k - 1000000, x.re (fK j d)) :: backFO j d r) (backFO j d r)))
theorem aget_backFO {j : Nat} (hj : j < 1000000) (d : Nat) : ∀ (l : List (Nat × Ob)) (k : Nat), aget (backFO j d l) k = (aget l (if k = d then j else k + 1000000)).map (Ob.re (fK j d))
 | [], k => rfl
 | (q, x) :: r, k => by
   have ih := aget_backFO hj d r k
   simp only [backFO, aget_cons]
   cases h : Nat.beq q j with
   | true =>
     have hq := Nat.eq_of_beq_eq_true h
     subst hq
     simp only [cond_true, aget_cons, ih]
     by_cases e : k = d
     · simp [e]
     · rw [if_neg e, if_neg e, if_neg (by omega)]
   | false =>
     have hq := Nat.ne_of_beq_eq_false h
     simp only [cond_false]
     cases h2 : Nat.beq q (d + 1000000) with
     | true =>
       have hq2 := Nat.eq_of_beq_eq_true h2
       simp only [cond_true, ih]
       by_cases e : k = d
       · rw [if_pos e, if_neg (by omega)]
       · rw [if_neg e, if_neg (by omega)]
     | false =>
       have hq2 := Nat.ne_of_beq_eq_false h2
       simp only [cond_false]
       cases h3 : Nat.ble 1000000 q with
       | true =>
         have hq3 : 1000000 ≤ q := Nat.le_of_ble_eq_true h3
         simp only [cond_true, aget_cons, ih]
         by_cases e : k = d
         · subst e
           rw [if_neg (by omega), if_pos rfl, if_neg (by omega)]
         · rw [if_neg e]
           by_cases e2 : k = q - 1000000
           · rw [if_pos e2, if_pos (by omega)]; rfl
           · rw [if_neg e2, if_neg (by omega)]
       | false =>
         have hq3 : ¬ 1000000 ≤ q := fun h' => by rw [Nat.ble_eq_true_of_le h'] at h3; cases h3
         simp only [cond_false, ih]
         by_cases e : k = d
         · rw [if_pos e, if_neg (by omega)]
         · rw [if_neg e, if_neg (by omega)]
def backFC (c c' : CS) (j d : Nat) : CS := { s := c.s.map (SV.kill d), o := backFO j d c'.o }
theorem backFC_st (c c' : CS) {j : Nat} (hj : j < 1000000) (d : Nat) : (backFC c c' j d).st = c.st.backF c'.st j d := by
 refine St.ext' (fun i => ?_) (fun k => aget_backFO hj d c'.o k)
 show ((c.s.map (SV.kill d)).get i).getD _ = SV.kill d ((c.s.get i).getD _)
 rw [Tr.get_map]
 cases c.s.get i <;> rfl
def resPC : List ResultVar → CS → Option (List PV)
 | [], _ => some []
 | .tmp t :: rest, c => match shC false c (c.gt t) with
   | some (d, c') => match resPC rest c' with
     | some ds => some (d :: ds)
     | none => none
   | none => none
 | .cell t T :: rest, c => match loadShC T (.tmp t) c with
   | some (x, c1) => match shC false c1 x with
     | some (d, c') => match resPC rest c' with
       | some ds => some (d :: ds)
       | none => none
     | none => none
   | none => none
theorem resPC_sound : ∀ {rs : List ResultVar} {c : CS} {ds : List PV}, resPC rs c = some ds → ∀ {K : List PV → Prop}, K ds → resP E rs c.st K
 | [], c, ds, h, K, hK => by injection h with h; subst h; exact hK
 | .tmp t :: rest, c, ds, h, K, hK => by
   simp only [resPC] at h
   simp only [resP, CS.gt_st]
   split at h
   · rename_i d c1 h1
     split at h
     · rename_i ds1 h2
       injection h with h; subst h
       exact shC_sound h1 (resPC_sound h2 hK)
     · cases h
   · cases h
 | .cell t T :: rest, c, ds, h, K, hK => by
   simp only [resPC] at h
   simp only [resP]
   split at h
   · rename_i x c1 h1
     split at h
     · rename_i d c2 h2
       split at h
       · rename_i ds1 h3
         injection h with h; subst h
         exact loadShC_sound h1 (shC_sound h2 (resPC_sound h3 hK))
       · cases h
     · cases h
   · cases h
def resTC : List ResultVar → CS → Option (List PV × CS)
 | [], c => some ([], c)
 | .tmp t :: rest, c => match shC false c (c.gt t) with
   | some (d, c1) => match resTC rest c1 with
     | some (ds, c2) => some (d :: ds, c2)
     | none => none
   | none => none
 | .cell t T :: rest, c => match loadShC T (.tmp t) c with
   | some (x, c0) => match shC false c0 x with
     | some (d, c1) => match resTC rest c1 with
       | some (ds, c2) => some (d :: ds, c2)
       | none => none
     | none => none
   | none => none
theorem resTC_sound : ∀ {rs : List ResultVar} {c c' : CS} {ds : List PV}, resTC rs c = some (ds, c') → ∀ {K : List PV → St → Prop}, K ds c'.st → resS E rs c.st K
 | [], c, c', ds, h, K, hK => by injection h with h; injection h with h1 h2; subst h1; subst h2; exact hK
 | .tmp t :: rest, c, c', ds, h, K, hK => by
   simp only [resTC] at h
   simp only [resS, CS.gt_st]
   split at h
   · rename_i d c1 h1
     split at h
     · rename_i ds1 c2 h2
       injection h with h; injection h with h3 h4; subst h3; subst h4
       exact shC_sound h1 (resTC_sound h2 hK)
     · cases h
   · cases h
 | .cell t T :: rest, c, c', ds, h, K, hK => by
   simp only [resTC] at h
   simp only [resS]
   split at h
   · rename_i x c0 h0
     split at h
     · rename_i d c1 h1
       split at h
       · rename_i ds1 c2 h2
         injection h with h; injection h with h3 h4; subst h3; subst h4
         exact loadShC_sound h0 (shC_sound h1 (resTC_sound h2 hK))
       · cases h
     · cases h
   · cases h
structure FD where
 fn : Func
 hs : List (Nat × Hint)
structure FOk (g : Nat) (f : FD) : Prop where
  hf : E.P.funcs[g]? = some f.fn
  hname : (f.fn.name == "runtime.NumGoroutine") = false
  hn : f.fn.ntmps ≤ 1000000
  hb : ∃ b, f.fn.body = some b ∧ codeOk f.fn.ntmps b = true ∧ codeChk f.hs b = true
def okC : Exit → Bool
 | .normal => true
 | .ret => true
 | _ => false
def callP (P : Par) (n : Nat) (f : FD) (vs : List PV) : Option PV := match f.fn.body with
 | some b => cond (Nat.ble vs.length f.fn.ntmps) (match runC P f.hs n b (initC vs) with
   | some (e, c) => cond (okC e) (match resPC f.fn.results.toList c with
     | some ds => some (one? ds)
     | none => none) none
   | none => none) none
 | none => none
theorem callP_sound {P : Par} (hP : POk P) {n g : Nat} {f : FD} (hf : FOk g f) {vs : List PV} {d : PV} (h : callP P n f vs = some d) : Con E g vs d := by
 obtain ⟨b, hb, hok, hck⟩ := hf.hb
 unfold callP at h
 simp only [hb] at h
 cases hl : Nat.ble vs.length f.fn.ntmps with
 | false => rw [hl] at h; cases h
 | true =>
   rw [hl] at h
   simp only [cond_true] at h
   split at h
   · rename_i e c h1
     cases he : okC e with
     | false => rw [he] at h; cases h
     | true =>
       rw [he] at h
       simp only [cond_true] at h
       split at h
       · rename_i ds h2
         injection h with h; subst h
         refine con_of mixed hf.hf hf.hname hb hok (Nat.le_of_ble_eq_true hl) ?_
         have := runC_sound hP b hck _ _ _ h1 (fun e σ => match e with | .normal | .ret => resP E f.fn.results.toList σ fun ds' => one? ds' = one? ds | _ => False) (by
           cases e with
           | normal => exact resPC_sound h2 rfl
           | ret => exact resPC_sound h2 rfl
           | _ => cases he)
         rw [initC_st] at this
         exact this
       · cases h
   · cases h
def finIC (c0 : CS) (dst : Option Nat) (c : CS) (x : SV) : Option (SV × CS) := match x.key with
 | some j => cond (Nat.ble 1000000 j) (some (x.re dnK, backC c0 c)) (match dst with
   | some d => some (x.re (fK j d), backFC c0 c j d)
   | none => none)
 | none => some (x, backC c0 c)
theorem finIC_sound {c0 c c' : CS} {dst : Option Nat} {x y : SV} (h : finIC c0 dst c x = some (y, c')) {K : SV → St → Prop} (hK : K y c'.st) : finI c0.st dst K c.st x := by
 unfold finIC at h
 unfold finI
 split at h
 · rename_i j hj
   simp only [hj]
   cases hb : Nat.ble 1000000 j with
   | true =>
     rw [hb] at h
     have := Nat.le_of_ble_eq_true hb
     rw [if_neg (by omega)]
     injection h with h; injection h with h1 h2; subst h1; subst h2
     rw [backC_st] at hK; exact hK
   | false =>
     rw [hb] at h
     simp only [cond_false] at h
     have hlt : j < 1000000 := Nat.lt_of_not_le fun h' => by rw [Nat.ble_eq_true_of_le h'] at hb; cases hb
     rw [if_pos hlt]
     split at h
     · rename_i d
       injection h with h; injection h with h1 h2; subst h1; subst h2
       rw [backFC_st _ _ hlt] at hK
       exact ⟨d, rfl, hK⟩
     · cases h
 · rename_i hj
   simp only [hj]
   injection h with h; injection h with h1 h2; subst h1; subst h2
   rw [backC_st] at hK; exact hK
def endI (c0 : CS) (dst : Option Nat) (rs : List ResultVar) (c : CS) : Option (SV × CS) := match rs with
 | [.tmp t] => finIC c0 dst c (c.gt t)
 | [.cell t T] => match loadC T (evC c (.tmp t)) c with
   | some x => finIC c0 dst c x
   | none => none
 | rs => match resTC rs c with
   | some (ds, c') => some (.sh (one? ds), backC c0 c')
   | none => none
theorem endI_sound {c0 c c' : CS} {dst : Option Nat} {rs : List ResultVar} {x : SV} {e : Exit} (he : okC e = true) (h : endI c0 dst rs c = some (x, c')) {K : SV → St → Prop} (hK : K x c'.st) : rqI E c0.st dst rs K e c.st := by
 have key : rqI E c0.st dst rs K .normal c.st := by
   unfold endI at h
   simp only [rqI]
   split at h
   · rename_i t
     simp only [CS.gt_st]
     exact finIC_sound h hK
   · rename_i t T
     split at h
     · rename_i y hy
       exact loadC_sound hy (finIC_sound h hK)
     · cases h
   · rename_i hne1 hne2
     split at h
     · rename_i ds c1 h1
       injection h with h; injection h with h2 h3; subst h2; subst h3
       split
       · exact (hne1 _ rfl).elim
       · exact (hne2 _ _ rfl).elim
       · exact resTC_sound h1 (by rw [backC_st] at hK; exact hK)
     · cases h
 cases e with
 | normal => exact key
 | ret => exact key
 | _ => cases he
def callI (P : Par) (n : Nat) (f : FD) (xs : List SV) (dst : Option Nat) (c : CS) : Option (SV × CS) := match f.fn.body with
 | some b => cond (Nat.ble xs.length f.fn.ntmps) (match runC P f.hs n b (enterC c xs) with
   | some (e, c') => cond (okC e) (endI c dst f.fn.results.toList c') none
   | none => none) none
 | none => none
theorem callI_sound {P : Par} (hP : POk P) {n g : Nat} {f : FD} (hf : FOk g f) {o : Oper} {k : Call} {fo : Operand} {caps : List PV} {c c' : CS} {x : SV} (ho : o.op = .call k) (hc : k.callee = .value fo) (hv : evC c fo = .sh (.fn g caps))
   (h : callI P n f (k.args.toList.map (evC c) ++ caps.map .sh) o.dst c = some (x, c')) (K : SV → St → Prop) (hK : K x c'.st) : SemOp E o c.st K := by
 obtain ⟨b, hb, hok, hck⟩ := hf.hb
 unfold callI at h
 simp only [hb] at h
 cases hl : Nat.ble (k.args.toList.map (evC c) ++ caps.map SV.sh).length f.fn.ntmps with
 | false => rw [hl] at h; cases h
 | true =>
   rw [hl] at h
   simp only [cond_true] at h
   split at h
   · rename_i e c1 h1
     cases he : okC e with
     | false => rw [he] at h; cases h
     | true =>
       rw [he] at h
       simp only [cond_true] at h
       have hl' := Nat.le_of_ble_eq_true hl
       simp only [List.length_append, List.length_map, Array.length_toList] at hl'
       refine inl_call mixed ho hc (by rw [ev_st]; exact hv) hf.hf hf.hname hb hok ⟨hl', hf.hn⟩ ?_
       have := runC_sound hP b hck _ _ _ h1 _ (endI_sound he h hK)
       rw [enterC_st] at this
       rw [maps_st]
       exact this
   · cases h
structure Fact where
 g : Nat
 vs : List PV
 d : PV
def fget (g : Nat) (vs : List PV) : List Fact → Option PV
 | [] => none
 | f :: l => cond (Nat.beq g f.g) (cond (lsEq (PV.eqb 20) vs f.vs) (some f.d) (fget g vs l)) (fget g vs l)
def FcOk (l : List Fact) : Prop := ∀ f ∈ l, Con E f.g f.vs f.d
theorem fget_sound : ∀ {l : List Fact}, FcOk l → ∀ {g : Nat} {vs : List PV} {d : PV}, fget g vs l = some d → Con E g vs d
 | [], _, g, vs, d, h => by cases h
 | f :: l, hl, g, vs, d, h => by
   have hl' : FcOk l := fun f' hf' => hl f' (List.mem_cons_of_mem _ hf')
   simp only [fget] at h
   cases hg : Nat.beq g f.g with
   | false => rw [hg] at h; exact fget_sound hl' h
   | true =>
     rw [hg] at h
     simp only [cond_true] at h
     cases ha : lsEq (PV.eqb 20) vs f.vs with
     | false => rw [ha] at h; exact fget_sound hl' h
     | true =>
       rw [ha] at h
       injection h with h; subst h
       rw [Nat.eq_of_beq_eq_true hg, lsEq_eq (PV.eqb_eq 20) ha]
       exact hl f List.mem_cons_self
def fdget (l : List (Nat × FD)) (g : Nat) : Option FD := match l with
 | [] => none
 | (k, f) :: r => cond (Nat.beq g k) (some f) (fdget r g)
def FdOk (l : List (Nat × FD)) : Prop := ∀ p ∈ l, FOk p.1 p.2
theorem fdget_ok : ∀ {l : List (Nat × FD)}, FdOk l → ∀ {g : Nat} {f : FD}, fdget l g = some f → FOk g f
 | [], _, g, f, h => by cases h
 | (k, f') :: r, hl, g, f, h => by
   simp only [fdget] at h
   cases hg : Nat.beq g k with
   | false => rw [hg] at h; exact fdget_ok (fun p hp => hl p (List.mem_cons_of_mem _ hp)) h
   | true =>
     rw [hg] at h
     injection h with h; subst h
     rw [Nat.eq_of_beq_eq_true hg]
     exact hl _ List.mem_cons_self
def lev (F : List (Nat × FD)) (fs : List Fact) (n : Nat) : Nat → Par
 | 0 => ⟨fun g vs => fget g vs fs, fun _ _ _ _ => none⟩
 | m + 1 => ⟨fun g vs => match fget g vs fs with
     | some d => some d
     | none => match fdget F g with
       | some f => callP (lev F fs n m) n f vs
       | none => none,
   fun g xs d c => match fdget F g with
     | some f => callI (lev F fs n m) n f xs d c
     | none => none⟩
theorem lev_ok {F : List (Nat × FD)} (hF : FdOk F) {fs : List Fact} (hfs : FcOk fs) {n : Nat} : ∀ m, POk (lev F fs n m)
 | 0 => ⟨fun g vs d h => fget_sound hfs h, fun o k f g caps c c' x _ _ _ h => (by cases h)⟩
 | m + 1 => by
   refine ⟨fun g vs d h => ?_, fun o k f g caps c c' x ho hc hv h K hK => ?_⟩
   · simp only [lev] at h
     split at h
     · rename_i d' hd
       injection h with h; subst h
       exact fget_sound hfs hd
     · split at h
       · rename_i f hf
         exact callP_sound (lev_ok hF hfs m) (fdget_ok hF hf) h
       · cases h
   · simp only [lev] at h
     split at h
     · rename_i fd hf
       exact callI_sound (lev_ok hF hfs m) (fdget_ok hF hf) ho hc hv h K hK
     · cases h
theorem ev_call {F : List (Nat × FD)} (hF : FdOk F) {fs : List Fact} (hfs : FcOk fs) (n m : Nat) {g : Nat} {vs : List PV} {d : PV} (h : (match (lev F fs n m).cl g vs with | some r => PV.eqb 30 r d | none => false) = true) : Con E g vs d := by
 split at h
 · rename_i r hr
   rw [← PV.eqb_eq _ _ _ h]
   exact (lev_ok hF hfs m).cl _ _ _ hr
 · cases h
end Go.Pw
