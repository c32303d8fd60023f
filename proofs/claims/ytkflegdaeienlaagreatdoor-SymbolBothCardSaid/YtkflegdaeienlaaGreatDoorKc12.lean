/- Merged from the working texts PwL. -/
import Derived.Test.YtkflegdaeienlaaGreatDoorKc11
set_option linter.all false
set_option maxHeartbeats 400000
set_option linter.unusedVariables false
set_option linter.unusedSimpArgs false
namespace Go.Pw
open Go.RowKit
theorem withShs_local {E : Env} {σ τ : St} (ho : σ.o = τ.o) : ∀ (xs : List Operand), (∀ x ∈ xs, σ.ev E x = τ.ev E x) → ∀ {F : List PV → Prop}, (withShs E true σ xs fun ds _ => F ds) → withShs E true τ xs fun ds _ => F ds
 | [], _, F, h => h
 | x :: xs, hx, F, h => by
   simp only [withShs] at h ⊢
   rw [← hx x (by simp)]
   have ih := fun {G : List PV → Prop} => withShs_local (F := G) ho xs (fun y hy => hx y (by simp [hy]))
   unfold withSh at h ⊢
   split at h
   · exact ih h
   · exact ih h
   · exact ih h
   · split at h
     · exact absurd h.1 (by simp)
     · exact h.elim
   · split at h
     · exact absurd h.1 (by simp)
     · exact h.elim
   · exact h.elim
theorem withSh_local {σ τ : St} {x y : SV} (hx : x = y) {F : PV → Prop} (h : withSh true σ x fun d _ => F d) : withSh true τ y fun d _ => F d := by
 subst hx
 unfold withSh at h ⊢
 split at h
 · exact h
 · exact h
 · exact h
 · split at h
   · exact absurd h.1 (by simp)
   · exact h.elim
 · split at h
   · exact absurd h.1 (by simp)
   · exact h.elim
 · exact h.elim
theorem mapOf_o {σ τ : St} (ho : σ.o = τ.o) (x : SV) : mapOf σ x = mapOf τ x := by unfold mapOf; rw [ho]
theorem ppop_local {E : Env} {σ τ : St} {op : Op} {K : SV → Prop} (ho : σ.o = τ.o) (hs : ∀ t, Operand.tmp t ∈ op.operands → σ.s t = τ.s t) (h : ppop E op σ K) : ppop E op τ K := by
 have ev : ∀ x, x ∈ op.operands → σ.ev E x = τ.ev E x := by
   intro x hx
   cases x with
   | tmp t => exact hs t hx
   | _ => rfl
 cases op with
 | move x => simp only [ppop] at h ⊢; rw [← ev x (by simp [Op.operands])]; exact h
 | assign x => simp only [ppop] at h ⊢; rw [← ev x (by simp [Op.operands])]; exact h
 | pick c x y => simp only [ppop] at h ⊢; rw [← ev c (by simp [Op.operands]), ← ev x (by simp [Op.operands]), ← ev y (by simp [Op.operands])]; exact h
 | load T x => simp only [ppop] at h ⊢; rw [← ev x (by simp [Op.operands]), ← ho]; exact h
 | nilCheck x => simp only [ppop] at h ⊢; rw [← ev x (by simp [Op.operands])]; exact h
 | binOp op T x y T2 => simp only [ppop] at h ⊢; rw [← ev x (by simp [Op.operands]), ← ev y (by simp [Op.operands])]; exact h
 | unOp op T x => simp only [ppop] at h ⊢; rw [← ev x (by simp [Op.operands])]; exact h
 | convert s d x => simp only [ppop] at h ⊢; rw [← ev x (by simp [Op.operands])]; exact h
 | fieldAddr T x f => simp only [ppop] at h ⊢; rw [← ev x (by simp [Op.operands])]; exact h
 | indexAddr T x i => simp only [ppop] at h ⊢; rw [← ev x (by simp [Op.operands]), ← ev i (by simp [Op.operands]), ← ho]; exact h
 | index T x i => simp only [ppop] at h ⊢; rw [← ev x (by simp [Op.operands]), ← ev i (by simp [Op.operands])]; exact h
 | extract x i => simp only [ppop] at h ⊢; rw [← ev x (by simp [Op.operands])]; exact h
 | field T x f => simp only [ppop] at h ⊢; rw [← ev x (by simp [Op.operands])]; exact h
 | makeSlice T x y => simp only [ppop] at h ⊢; rw [← ev x (by simp [Op.operands]), ← ev y (by simp [Op.operands])]; exact h
 | lookup T x ix c => simp only [ppop] at h ⊢; rw [← ev x (by simp [Op.operands]), ← ev ix (by simp [Op.operands]), ← mapOf_o ho]; exact h
 | buildSlice T len parts =>
   simp only [ppop, litP] at h ⊢
   split at h
   · split at h
     · split at h
       · exact ⟨h.1, h.2.1, withShs_local ho _ (fun x hx => ev x (by simpa [Op.operands] using hx)) h.2.2⟩
       · exact h.elim
     · exact h.elim
   · exact h.elim
 | makeFunc fn first caps =>
   cases fn with
   | func g =>
     simp only [ppop] at h ⊢
     rw [← List.map_congr_left (fun x hx => ev x (by simp only [Op.operands]; simp at hx ⊢; exact .inr hx))]
     exact h
   | _ => simp only [ppop] at h
 | build T parts =>
   simp only [ppop, buildP] at h ⊢
   split at h
   · exact ⟨h.1, withShs_local ho _ (fun x hx => ev x (by simpa [Op.operands] using hx)) h.2⟩
   · exact h.elim
 | slice T x lo hi mx =>
   cases mx with
   | none =>
     simp only [ppop, sliceP] at h ⊢
     have hlo : lo.map (σ.ev E) = lo.map (τ.ev E) := by cases lo with | none => rfl | some l => simp [ev l (by simp [Op.operands])]
     have hhi : hi.map (σ.ev E) = hi.map (τ.ev E) := by cases hi with | none => rfl | some l => simp [ev l (by simp [Op.operands])]
     split at h
     · split at h
       · obtain ⟨d, h1, hall⟩ := withSh_ex h
         split at h1
         · rename_i rows
           have e := ev x (by simp [Op.operands])
           have key : withSh true τ (τ.ev E x) fun d τ' => d = .sl rows ∧ τ' = τ := by
             have := hall (fun d _ => d = .sl rows) rfl
             have h2 := withSh_local (τ := τ) e this
             obtain ⟨d', h3, hall'⟩ := withSh_ex h2
             subst h3
             exact hall' _ ⟨rfl, rfl⟩
           obtain ⟨d', h3, hall'⟩ := withSh_ex key
           obtain ⟨rfl, _⟩ := h3
           refine hall' _ ?_
           rw [hlo, hhi] at h1
           exact h1
         · exact h1.elim
       · exact h.elim
     · exact h.elim
   | some m => simp only [ppop] at h
 | call c =>
   cases hc : c.callee with
   | value f =>
     have ef := ev f (by simp [Op.operands, Call.operands, hc])
     have ea : ∀ x ∈ c.args.toList, σ.ev E x = τ.ev E x := fun x hx => ev x (by simp only [Op.operands, Call.operands, hc]; simp at hx ⊢; exact .inr hx)
     simp only [ppop, hc] at h ⊢
     rw [← ef]
     split at h
     · exact withShs_local ho _ ea h
     · exact h.elim
   | invoke r m => simp only [ppop, hc] at h
   | builtin b =>
     have ea : ∀ x ∈ c.args.toList, σ.ev E x = τ.ev E x := fun x hx => ev x (by simp only [Op.operands, Call.operands, hc]; simpa using hx)
     cases b with
     | len =>
       simp only [ppop, hc] at h ⊢
       split at h
       · rename_i t x ht hx
         have ex := ea x (by simpa using Array.mem_of_getElem? hx)
         rw [← ex, ← ho]
         simp only [← mapOf_o ho]
         exact h
       · exact h.elim
     | append =>
       simp only [ppop, hc, addP] at h ⊢
       split at h
       · rename_i s x t t' hargs htys
         have es := ea s (by rw [hargs]; simp)
         have ex := ea x (by rw [hargs]; simp)
         obtain ⟨h0, h⟩ := h
         refine ⟨h0, ?_⟩
         split at h
         · split at h
           · split at h
             · rw [← es]
               split at h
               · exact withSh_local ex h
               · exact h.elim
             · exact h.elim
           · exact h.elim
         · exact h.elim
       · exact h.elim
     | max => simp only [ppop, hc] at h ⊢; rw [← List.map_congr_left (fun x hx => ea x hx)]; exact h
     | min => simp only [ppop, hc] at h ⊢; rw [← List.map_congr_left (fun x hx => ea x hx)]; exact h
     | _ => simp only [ppop, hc] at h
 | _ => simp only [ppop] at h
def gslot (ops : Array Oper) (j : Nat) : Option Nat := (ops[j]?).bind (·.dst)
def SemOp (E : Env) (o : Oper) (σ : St) (K : SV → St → Prop) : Prop := ∀ (w0 : Base) (A0 : Nat → Prop) (a : Act) (w : World) (loc : Nat → Value) (Q : Exit → Act → World → Prop), Inv E.gpv w0 A0 σ a w loc → (∀ t, o.dst = some t → t < a.tmps.size) → EGives E w0 A0 w loc o a K Q
def pops (E : Env) (ops : Array Oper) : List Oper → (St → Prop) → St → Prop
 | [], K, σ => K σ
 | o :: rest, K, σ => match o.guard with
   | none => (epop E o.dst o.op σ fun x τ => pops E ops rest K (τ.put o.dst x)) ∨ SemOp E o σ fun x τ => pops E ops rest K (τ.put o.dst x)
   | some (j, want) => match gslot ops j with
     | some t => match σ.s t with
       | .sh (.val (.bool b)) => (b = want → epop E o.dst o.op σ fun x τ => pops E ops rest K (τ.put o.dst x)) ∧ (b = !want → pops E ops rest K (σ.put o.dst (.sh (.val undef))))
       | .sh (.val (.tuple _)) => pops E ops rest K (σ.put o.dst (.sh (.val undef)))
       | _ => False
     | none => False
section
variable {E : Env} {w0 : Base} {A0 : Nat → Prop} {ops : Array Oper} {Q : Exit → Act → World → Prop}
theorem undef_tuple : undef = .tuple #[] := rfl
theorem wanted_of {σ : St} {a : Act} {w : World} {loc : Nat → Value} (h : Inv E.gpv w0 A0 σ a w loc) {o : Oper} {j t : Nat} {want b : Bool} (hg : o.guard = some (j, want)) (ht : gslot ops j = some t) (hs : σ.s t = .sh (.val (.bool b))) :
   Region.wanted o (yielded ops a.tmps) = (b == want) := by
 have h1 := h.iS t
 rw [hs] at h1
 have h2 := h1.val_eq
 have h3 : a.tmps[t]? = some (.bool b) := by
   rw [Array.getD_eq_getD_getElem?] at h2
   cases hq : a.tmps[t]? with
   | none => rw [hq] at h2; rw [Option.getD_none, undef_tuple] at h2; cases h2
   | some v => rw [hq] at h2; exact congrArg some h2
 unfold gslot at ht
 simp only [Region.wanted, hg, yielded, ht, Option.bind_some, h3]
 cases b <;> cases want <;> rfl
theorem unwanted_of {σ : St} {a : Act} {w : World} {loc : Nat → Value} (h : Inv E.gpv w0 A0 σ a w loc) {o : Oper} {j t : Nat} {want : Bool} {vs : Array Value} (hg : o.guard = some (j, want)) (ht : gslot ops j = some t) (hs : σ.s t = .sh (.val (.tuple vs))) :
   Region.wanted o (yielded ops a.tmps) = false := by
 have h1 := h.iS t
 rw [hs] at h1
 have h2 := h1.val_eq
 unfold gslot at ht
 simp only [Region.wanted, hg, yielded, ht, Option.bind_some]
 rw [Array.getD_eq_getD_getElem?] at h2
 cases hq : a.tmps[t]? with
 | none => rfl
 | some v =>
   rw [hq] at h2
   simp only [Option.getD_some] at h2
   subst h2
   rfl
theorem pops_sound : ∀ (l : List Oper) (σ : St) (a : Act) (w : World) (loc : Nat → Value) (K : St → Prop), Inv E.gpv w0 A0 σ a w loc → (∀ o ∈ l, ∀ t, o.dst = some t → t < a.tmps.size) → pops E ops l K σ →
   (∀ τ a' w' loc', K τ → Inv E.gpv w0 A0 τ a' w' loc' → a'.tmps.size = a.tmps.size → Trk a loc loc' → Q .normal a' w') → wpList E.P ops Q l a w
 | [], σ, a, w, loc, K, h, _, hp, hQ => hQ σ a w loc hp h rfl (Trk.refl _ _)
 | o :: rest, σ, a, w, loc, K, h, hd, hp, hQ => by
   have go2 : EGives E w0 A0 w loc o a (fun x τ => pops E ops rest K (τ.put o.dst x)) Q → o.wp E.P a w (wpList E.P ops Q rest) Q := fun hg =>
     hg _ fun x τ a' w' loc' hK hinv hsz htr =>
       pops_sound rest _ a' w' loc' K hinv (fun o' ho' t ht => by rw [hsz]; exact hd o' (by simp [ho']) t ht) hK fun τ' a'' w'' loc'' h1 h2 h3 h4 => hQ τ' a'' w'' loc'' h1 h2 (h3.trans hsz) (htr.trans hsz h4)
   have go : (epop E o.dst o.op σ fun x τ => pops E ops rest K (τ.put o.dst x)) → o.wp E.P a w (wpList E.P ops Q rest) Q := fun hp => go2 (epop_sound h (hd o (by simp)) hp)
   simp only [pops] at hp
   unfold wpList
   split at hp
   · rename_i hg
     rw [if_pos (by simp [Region.wanted, hg])]
     rcases hp with hp | hp
     · exact .inl (go hp)
     · exact .inl (go2 (hp w0 A0 a w loc Q h (hd o (by simp))))
   · rename_i j want hg
     split at hp
     · rename_i t ht
       split at hp
       · rename_i b hs
         rw [wanted_of h hg ht hs]
         by_cases e : b = want
         · rw [if_pos (by simp [e])]
           exact .inl (go (hp.1 e))
         · rw [if_neg (by simp [e])]
           exact pops_sound rest _ _ w loc K (h.put (hd o (by simp)) (.sh (.val _))) (fun o' ho' t ht => by rw [put_size]; exact hd o' (by simp [ho']) t ht) (hp.2 (by cases b <;> cases want <;> simp at e ⊢)) fun τ' a'' w'' loc'' h1 h2 h3 h4 => hQ τ' a'' w'' loc'' h1 h2 (by rw [h3, put_size]) (fun hn => h4 (by rw [put_size]; exact hn))
       · rename_i vs hs
         rw [unwanted_of h hg ht hs, if_neg (by simp)]
         exact pops_sound rest _ _ w loc K (h.put (hd o (by simp)) (.sh (.val _))) (fun o' ho' t ht => by rw [put_size]; exact hd o' (by simp [ho']) t ht) hp fun τ' a'' w'' loc'' h1 h2 h3 h4 => hQ τ' a'' w'' loc'' h1 h2 (by rw [h3, put_size]) (fun hn => h4 (by rw [put_size]; exact hn))
       · exact hp.elim
     · exact hp.elim
def pqs (E : Env) (ops : Array Oper) : Nat → List Oper → (St → Prop) → St → Prop
 | _, [], K, σ => K σ
 | 0, l, K, σ => pops E ops l K σ
 | m + 1, o :: rest, K, σ => match o.guard with
   | none => ppop E o.op σ fun x => pqs E ops m rest K (σ.put o.dst x)
   | some (j, want) => match gslot ops j with
     | some t => match σ.s t with
       | .sh (.val (.bool b)) => (b = want → ppop E o.op σ fun x => pqs E ops m rest K (σ.put o.dst x)) ∧ (b = !want → pqs E ops m rest K (σ.put o.dst (.sh (.val undef))))
       | .sh (.val (.tuple _)) => pqs E ops m rest K (σ.put o.dst (.sh (.val undef)))
       | _ => False
     | none => False
def mask (acc : List Nat) (o : Oper) : Nat := o.after.toList.foldl (fun s e => if Region.binds .any e then s ||| 2 ^ e.on ||| acc.getD e.on 0 else s) 0
def masks : List Oper → List Nat → List Nat
 | [], acc => acc
 | o :: os, acc => masks os (acc ++ [mask acc o])
theorem masks_spec : ∀ (os : List Oper) (acc : List Nat), (masks os acc).length = acc.length + os.length ∧ (∀ i, i < acc.length → (masks os acc)[i]? = acc[i]?) ∧
   ∀ j o, os[j]? = some o → (masks os acc)[acc.length + j]? = some (mask ((masks os acc).take (acc.length + j)) o)
 | [], acc => ⟨rfl, fun _ _ => rfl, fun j o h => by simp at h⟩
 | o :: os, acc => by
   obtain ⟨h1, h2, h3⟩ := masks_spec os (acc ++ [mask acc o])
   simp only [masks]
   refine ⟨by rw [h1]; simp; omega, fun i hi => by rw [h2 i (by simp; omega)]; simp [List.getElem?_append_left hi], fun j o' hj => ?_⟩
   cases j with
   | zero =>
     simp only [List.getElem?_cons_zero, Option.some.injEq] at hj
     subst hj
     rw [Nat.add_zero, h2 _ (by simp), List.getElem?_append_right (Nat.le_refl _)]
     simp only [Nat.sub_self, List.getElem?_cons_zero, Option.some.injEq]
     congr 1
     apply List.ext_getElem?
     intro q
     rw [List.getElem?_take]
     split
     · rename_i hq
       rw [h2 q (by simp; omega), List.getElem?_append_left hq]
     · rename_i hq
       rw [List.getElem?_eq_none (by omega)]
   | succ j =>
     have := h3 j o' (by simpa using hj)
     simp only [List.length_append, List.length_cons, List.length_nil] at this
     rw [show acc.length + (j + 1) = acc.length + (0 + 1) + j by omega]
     exact this
theorem testBit_mask {acc : List Nat} {i : Nat} : ∀ (l : List Edge) (s : Nat), (l.foldl (fun s e => if Region.binds .any e then s ||| 2 ^ e.on ||| acc.getD e.on 0 else s) s).testBit i = true →
   s.testBit i = true ∨ ∃ e ∈ l, Region.binds .any e = true ∧ (e.on = i ∨ (acc.getD e.on 0).testBit i = true)
 | [], s, h => .inl h
 | e :: l, s, h => by
   simp only [List.foldl_cons] at h
   rcases testBit_mask l _ h with h | ⟨e', he', hb, h⟩
   · split at h
     · rename_i hb
       simp only [Nat.testBit_or, Bool.or_eq_true] at h
       rcases h with (h | h) | h
       · exact .inl h
       · refine .inr ⟨e, by simp, hb, .inl ?_⟩
         rw [Nat.testBit_two_pow] at h
         simpa using h
       · exact .inr ⟨e, by simp, hb, .inr h⟩
     · exact .inl h
   · exact .inr ⟨e', by simp [he'], hb, h⟩
def Closed (ops : Array Oper) (L : Array Bool) : Prop := ∀ j o, ops[j]? = some o → L.getD j false = true → ∀ e ∈ o.after, Region.binds .any e = true → L.getD e.on false = true
def pre (ops : Array Oper) (j i : Nat) : Bool := ((masks ops.toList []).getD j 0).testBit i
theorem pre_listed {L : Array Bool} (hc : Closed ops L) : ∀ (j : Nat) (o : Oper), ops[j]? = some o → (∀ e ∈ o.after, Region.binds .any e = true → L.getD e.on false = true) → ∀ i, pre ops j i = true → L.getD i false = true := by
 intro j
 induction j using Nat.strongRecOn with
 | _ j ih =>
   intro o ho hall i hi
   obtain ⟨h1, _, h3⟩ := masks_spec ops.toList []
   have h4 := h3 j o (by simpa using ho)
   simp only [List.length_nil, Nat.zero_add] at h4
   simp only [pre, List.getD_eq_getElem?_getD, h4, Option.getD_some] at hi
   rcases testBit_mask _ _ hi with h | ⟨e, he, hb, h⟩
   · simp at h
   · have hel := hall e (by simpa using he) hb
     rcases h with rfl | h
     · exact hel
     · rw [List.getD_eq_getElem?_getD, List.getElem?_take] at h
       split at h
       · rename_i hlt
         have hjl : j < ops.size := (Array.getElem?_eq_some_iff.1 ho).1
         have hoe : ops[e.on]? = some ops[e.on] := Array.getElem?_eq_getElem (by omega)
         refine ih e.on hlt _ hoe (fun e' he' hb' => hc e.on _ hoe hel e' he' hb') i ?_
         simp only [pre, List.getD_eq_getElem?_getD]
         exact h
       · simp at h
def Oper.names (ops : Array Oper) (o : Oper) : List Nat := o.dst.toList ++ (o.op.operands.toList.filterMap fun | .tmp t => some t | _ => none) ++ (match o.guard with | some (j, _) => (gslot ops j).toList | none => [])
def drawOk (ops : Array Oper) (m : Nat) : Bool :=
 decide (m ≤ ops.size) &&
 ((List.range m).all fun i => (List.range ops.size).all fun j => i == j || match gslot ops i with
   | none => true
   | some d => match ops[j]? with
     | none => true
     | some o => !(Oper.names ops o).contains d || (if i < j then pre ops j i else pre ops i j && !(j < m && o.dst == some d))) &&
 ((List.range m).all fun i => (List.range m).all fun j => i == j || match gslot ops i with
   | none => true
   | some d => gslot ops j != some d) &&
 ((List.range ops.size).all fun j => j < m || (List.range j).all fun i => pre ops j i) &&
 ((List.range ops.size).all fun j => match ops[j]? with
   | none => true
   | some o => o.after.toList.all fun e => !Region.binds .any e || e.on < j)
def Stp (E : Env) (ops : Array Oper) (o : Oper) (σ : St) (x : SV) : Prop :=
 match o.guard with
 | none => ∀ K' : SV → Prop, K' x → ppop E o.op σ K'
 | some (j, want) => (∃ t vs, gslot ops j = some t ∧ σ.s t = .sh (.val (.tuple vs)) ∧ x = .sh (.val undef)) ∨ ∃ t b, gslot ops j = some t ∧ σ.s t = .sh (.val (.bool b)) ∧ ((b = want ∧ ∀ K' : SV → Prop, K' x → ppop E o.op σ K') ∨ (b = (!want) ∧ x = .sh (.val undef)))
def seqS (ops : Array Oper) (σ : St) (X : Nat → SV) : Nat → St
 | 0 => σ
 | i + 1 => (seqS ops σ X i).put (gslot ops i) (X i)
theorem seqS_congr {σ : St} {X Y : Nat → SV} : ∀ n, (∀ i, i < n → X i = Y i) → seqS ops σ X n = seqS ops σ Y n
 | 0, _ => rfl
 | n + 1, h => by simp only [seqS]; rw [seqS_congr n (fun i hi => h i (by omega)), h n (by omega)]
theorem pqs_ex : ∀ (m k : Nat) (l : List Oper) (σ : St) (K : St → Prop) (X0 : Nat → SV), (∀ j, l[j]? = ops[k + j]?) → m ≤ l.length → pqs E ops m l K (seqS ops σ X0 k) →
   ∃ X : Nat → SV, (∀ i, i < k → X i = X0 i) ∧ (∀ i o, k ≤ i → i < k + m → ops[i]? = some o → Stp E ops o (seqS ops σ X i) (X i)) ∧ pops E ops (l.drop m) K (seqS ops σ X (k + m))
 | 0, k, l, σ, K, X0, hl, hm, h => by
   refine ⟨X0, fun _ _ => rfl, fun i o h1 h2 => by omega, ?_⟩
   cases l with
   | nil => simpa [pqs, pops] using h
   | cons o l => simpa [pqs] using h
 | m + 1, k, [], σ, K, X0, hl, hm, h => by simp at hm
 | m + 1, k, o :: l, σ, K, X0, hl, hm, h => by
   have ho : ops[k]? = some o := by have := hl 0; simpa using this.symm
   have hg : gslot ops k = o.dst := by simp [gslot, ho]
   have fin : ∀ x, Stp E ops o (seqS ops σ X0 k) x → pqs E ops m l K ((seqS ops σ X0 k).put o.dst x) → ∃ X : Nat → SV, (∀ i, i < k → X i = X0 i) ∧ (∀ i o, k ≤ i → i < k + (m + 1) → ops[i]? = some o → Stp E ops o (seqS ops σ X i) (X i)) ∧ pops E ops ((o :: l).drop (m + 1)) K (seqS ops σ X (k + (m + 1))) := by
     intro x hx hp
     have hX1 : ∀ i, i < k → (fun i => if i = k then x else X0 i) i = X0 i := fun i hi => by simp [show i ≠ k by omega]
     have hs1 : seqS ops σ (fun i => if i = k then x else X0 i) k = seqS ops σ X0 k := seqS_congr k hX1
     obtain ⟨X, h1, h2, h3⟩ := pqs_ex m (k + 1) l σ K (fun i => if i = k then x else X0 i) (fun j => by have := hl (j + 1); simpa [Nat.add_assoc, Nat.add_comm 1 j] using this) (by simpa using hm) (by
       simp only [seqS, if_true]; rw [hs1, hg]; exact hp)
     have hXk : X k = x := by rw [h1 k (by omega)]; simp
     have hXs : seqS ops σ X k = seqS ops σ X0 k := by rw [← hs1]; exact seqS_congr k (fun i hi => h1 i (by omega))
     refine ⟨X, fun i hi => by rw [h1 i (by omega)]; exact hX1 i hi, fun i o' hi1 hi2 ho' => ?_, ?_⟩
     · by_cases e : i = k
       · subst e
         rw [ho] at ho'
         injection ho' with ho'
         subst ho'
         rw [hXs, hXk]; exact hx
       · exact h2 i o' (by omega) (by omega) ho'
     · rw [show k + (m + 1) = k + 1 + m by omega]; simpa using h3
   simp only [pqs] at h
   split at h
   · rename_i hgd
     obtain ⟨x, hK, hall⟩ := ppop_ex h
     exact fin x (by simp only [Stp, hgd]; exact hall) hK
   · rename_i j want hgd
     split at h
     · rename_i t ht
       split at h
       · rename_i b hs
         by_cases e : b = want
         · obtain ⟨x, hK, hall⟩ := ppop_ex (h.1 e)
           exact fin x (by simp only [Stp, hgd]; exact .inr ⟨t, b, ht, hs, .inl ⟨e, hall⟩⟩) hK
         · have e' : b = !want := by cases b <;> cases want <;> simp at e ⊢
           exact fin (.sh (.val undef)) (by simp only [Stp, hgd]; exact .inr ⟨t, b, ht, hs, .inr ⟨e', trivial⟩⟩) (h.2 e')
       · rename_i vs hs
         exact fin (.sh (.val undef)) (by simp only [Stp, hgd]; exact .inl ⟨t, vs, ht, hs, trivial⟩) h
       · exact h.elim
     · exact h.elim
def tau (ops : Array Oper) (m : Nat) (σ : St) (X : Nat → SV) (S : Nat → Bool) : St :=
 { σ with s := fun t => match (List.range m).find? (fun i => S i && (gslot ops i == some t)) with | some i => X i | none => σ.s t }
theorem tau_hit {m : Nat} {σ : St} {X : Nat → SV} {S : Nat → Bool} (hu : ∀ i j d, i < m → j < m → gslot ops i = some d → gslot ops j = some d → i = j) {i t : Nat} (hi : i < m) (hS : S i = true) (hd : gslot ops i = some t) : (tau ops m σ X S).s t = X i := by
 simp only [tau]
 cases hf : (List.range m).find? (fun i => S i && (gslot ops i == some t)) with
 | none =>
   have := List.find?_eq_none.1 hf i (by simpa using hi)
   simp [hS, hd] at this
 | some j =>
   have h1 := List.find?_some hf
   have h2 := List.mem_of_find?_eq_some hf
   simp only [Bool.and_eq_true, beq_iff_eq] at h1
   rw [hu j i t (by simpa using h2) hi h1.2 hd]
theorem tau_miss {m : Nat} {σ : St} {X : Nat → SV} {S : Nat → Bool} {t : Nat} (h : ∀ i, i < m → S i = true → gslot ops i ≠ some t) : (tau ops m σ X S).s t = σ.s t := by
 simp only [tau]
 cases hf : (List.range m).find? (fun i => S i && (gslot ops i == some t)) with
 | none => rfl
 | some j =>
   have h1 := List.find?_some hf
   have h2 := List.mem_of_find?_eq_some hf
   simp only [Bool.and_eq_true, beq_iff_eq] at h1
   exact absurd h1.2 (h j (by simpa using h2) h1.1)
theorem tau_put {m : Nat} {σ : St} {X : Nat → SV} {S S' : Nat → Bool} (hu : ∀ i j d, i < m → j < m → gslot ops i = some d → gslot ops j = some d → i = j) {k : Nat} (hk : k < m) (hS : ∀ i, i < m → S' i = (S i || i == k)) :
   tau ops m σ X S' = (tau ops m σ X S).put (gslot ops k) (X k) := by
 have hs : ∀ t, (tau ops m σ X S').s t = ((tau ops m σ X S).put (gslot ops k) (X k)).s t := by
   intro t
   by_cases hkt : gslot ops k = some t
   · rw [tau_hit hu hk (by rw [hS k hk]; simp) hkt, hkt]; simp [St.put]
   · have hp : ((tau ops m σ X S).put (gslot ops k) (X k)).s t = (tau ops m σ X S).s t := by
       cases hg : gslot ops k with
       | none => rfl
       | some d => rw [hg] at hkt; simp only [St.put]; rw [if_neg (fun e => hkt (by rw [e]))]
     rw [hp]
     by_cases hex : ∃ i, i < m ∧ S i = true ∧ gslot ops i = some t
     · obtain ⟨i, h1, h2, h3⟩ := hex
       rw [tau_hit hu h1 (by rw [hS i h1, h2]; rfl) h3, tau_hit hu h1 h2 h3]
     · rw [tau_miss (fun i h1 h2 h3 => ?_), tau_miss (fun i h1 h2 h3 => hex ⟨i, h1, h2, h3⟩)]
       rw [hS i h1] at h2
       simp only [Bool.or_eq_true, beq_iff_eq] at h2
       rcases h2 with h2 | rfl
       · exact hex ⟨i, h1, h2, h3⟩
       · exact hkt h3
 have ho : (tau ops m σ X S').o = ((tau ops m σ X S).put (gslot ops k) (X k)).o := by cases gslot ops k <;> rfl
 cases e1 : tau ops m σ X S' with
 | mk s1 o1 =>
   cases e2 : (tau ops m σ X S).put (gslot ops k) (X k) with
   | mk s2 o2 =>
     rw [e1, e2] at hs ho
     simp only at hs ho
     rw [ho, funext hs]
theorem seqS_tau {m : Nat} {σ : St} {X : Nat → SV} (hu : ∀ i j d, i < m → j < m → gslot ops i = some d → gslot ops j = some d → i = j) : ∀ n, n ≤ m → seqS ops σ X n = tau ops m σ X (fun i => decide (i < n))
 | 0, _ => by
   have : ∀ t, (tau ops m σ X (fun i => decide (i < 0))).s t = σ.s t := fun t => tau_miss (fun i _ h => by simp at h)
   simp only [seqS]
   cases σ with
   | mk s o => simp only [tau] at this ⊢; congr 1; funext t; exact (this t).symm
 | n + 1, h => by
   simp only [seqS]
   rw [seqS_tau hu n (by omega)]
   refine (tau_put hu (by omega) (fun i _ => ?_)).symm
   show decide (i < n + 1) = (decide (i < n) || i == n)
   rw [Bool.eq_iff_iff]
   simp
   omega
theorem tail_any {m : Nat} (hlow : ∀ j o, ops[j]? = some o → ∀ e ∈ o.after, Region.binds .any e = true → e.on < j) (hpre : ∀ j i, m ≤ j → j < ops.size → i < j → pre ops j i = true) : ∀ (l : List Oper) (q : Nat) (L : Array Bool) (a : Act) (w : World), m ≤ q → (∀ j, l[j]? = ops[q + j]?) → q + l.length = ops.size → L.size = ops.size → (∀ i, i < ops.size → (L.getD i true = true ↔ i < q)) → Closed ops L →
   wpList E.P ops Q l a w → wpAny E.P .any ops Q l.length L a w
 | [], q, L, a, w, hq, hl, hn, hL, hLi, hc, h => by
   refine ⟨?_, h⟩
   apply List.eq_nil_iff_forall_not_mem.2
   intro i hi
   obtain ⟨h1, o, ho, _⟩ := mem_ready.1 hi
   have hlt := (Array.getElem?_eq_some_iff.1 ho).1
   have := (hLi i hlt).2 (by simp at hn; omega)
   rw [h1] at this; cases this
 | o :: l, q, L, a, w, hq, hl, hn, hL, hLi, hc, h => by
   have ho : ops[q]? = some o := by have := hl 0; simpa using this.symm
   have hqn := (Array.getElem?_eq_some_iff.1 ho).1
   have hqL : L.getD q true = false := by
     cases e : L.getD q true with
     | false => rfl
     | true => have := (hLi q hqn).1 e; omega
   have getF : ∀ i, i < ops.size → L.getD i false = L.getD i true := fun i hi => by simp [Array.getD, hL, hi]
   have hrq : q ∈ Region.ready .any ops L := by
     refine mem_ready.2 ⟨hqL, o, ho, fun e he hb => ?_⟩
     have h1 := hlow q o ho e he hb
     rw [getF _ (by omega)]
     exact (hLi _ (by omega)).2 h1
   have honly : ∀ i, i ∈ Region.ready .any ops L → i = q := by
     intro i hi
     obtain ⟨h1, oi, hoi, hall⟩ := mem_ready.1 hi
     have hin := (Array.getElem?_eq_some_iff.1 hoi).1
     have hge : q ≤ i := by
       rcases Nat.lt_or_ge i q with h2 | h2
       · have := (hLi i hin).2 h2; rw [h1] at this; cases this
       · exact h2
     rcases Nat.lt_or_eq_of_le hge with h2 | h2
     · have h3 := pre_listed hc i oi hoi hall q (hpre i q (by omega) hin h2)
       rw [getF q hqn, hqL] at h3; cases h3
     · exact h2.symm
   refine ⟨fun h0 => (by rw [h0] at hrq; cases hrq), fun i hi => ?_⟩
   obtain rfl := honly i hi
   obtain ⟨_, oi, hoi, hall⟩ := mem_ready.1 hi
   rw [ho] at hoi; injection hoi with hoi; subst hoi
   have next : ∀ a w, wpList E.P ops Q l a w → wpAny E.P .any ops Q l.length (L.setIfInBounds i true) a w := fun a w h => by
     refine tail_any hlow hpre l (i + 1) _ a w (by omega) (fun j => by have := hl (j + 1); simpa [Nat.add_assoc, Nat.add_comm 1 j] using this) (by simp at hn; omega) (by simpa using hL) (fun j hj => ?_) ?_ h
     · by_cases e : j = i
       · subst e; simp [Array.getD, hL, hj]
       · rw [getD_set_ne true (Ne.symm e), hLi j hj]; omega
     · intro j o' ho' hj e he hb
       by_cases ej : j = i
       · subst ej
         rw [ho] at ho'; injection ho' with ho'; subst ho'
         exact getD_set_true (hall e he hb)
       · rw [getD_set_ne false (Ne.symm ej)] at hj
         exact getD_set_true (hc j o' ho' hj e he hb)
   unfold wpOp
   simp only [ho]
   simp only [wpList] at h
   split
   · rename_i hw
     rw [if_pos hw] at h
     exact h.imp (Oper.wp_mono next) id
   · rename_i hw
     rw [if_neg hw] at h
     exact next _ _ h
theorem drawOk_spec {m : Nat} (h : drawOk ops m = true) : m ≤ ops.size ∧
   (∀ i j d o, i < m → i ≠ j → gslot ops i = some d → ops[j]? = some o → d ∈ Oper.names ops o → (i < j ∧ pre ops j i = true) ∨ (j < i ∧ pre ops i j = true)) ∧
   (∀ i j d, i < m → j < m → gslot ops i = some d → gslot ops j = some d → i = j) ∧ (∀ j i, m ≤ j → j < ops.size → i < j → pre ops j i = true) ∧
   (∀ j o, ops[j]? = some o → ∀ e ∈ o.after, Region.binds .any e = true → e.on < j) := by
 simp only [drawOk, Bool.and_eq_true] at h
 obtain ⟨⟨⟨⟨h0, h1⟩, h2⟩, h3⟩, h4⟩ := h
 refine ⟨by simpa using h0, ?_, ?_, ?_, ?_⟩
 · intro i j d o hi hij hd ho hn
   have hj := (Array.getElem?_eq_some_iff.1 ho).1
   have := List.all_eq_true.1 (List.all_eq_true.1 h1 i (by simpa using hi)) j (by simpa using hj)
   simp only [hd, ho, Bool.or_eq_true, beq_iff_eq] at this
   rcases this with this | this
   · exact absurd this hij
   · rcases this with this | this
     · simp only [Bool.not_eq_true', List.contains_eq_mem, decide_eq_false_iff_not] at this
       exact absurd hn this
     · split at this
       · rename_i hlt; exact .inl ⟨hlt, this⟩
       · rename_i hlt
         simp only [Bool.and_eq_true] at this
         exact .inr ⟨by omega, this.1⟩
 · intro i j d hi hj hd hd'
   have := List.all_eq_true.1 (List.all_eq_true.1 h2 i (by simpa using hi)) j (by simpa using hj)
   simp only [hd, hd', Bool.or_eq_true, beq_iff_eq, bne_self_eq_false, or_false] at this
   simpa using this
 · intro j i hm hj hij
   have := List.all_eq_true.1 h3 j (by simpa using hj)
   simp only [Bool.or_eq_true, decide_eq_true_eq] at this
   rcases this with this | this
   · omega
   · exact List.all_eq_true.1 this i (by simpa using hij)
 · intro j o ho e he hb
   have hj := (Array.getElem?_eq_some_iff.1 ho).1
   have := List.all_eq_true.1 h4 j (by simpa using hj)
   simp only [ho] at this
   have := List.all_eq_true.1 this e (by simpa using he)
   simpa [hb] using this
def left (m : Nat) (L : Array Bool) : Nat := ((List.range m).filter fun i => !L.getD i true).length
theorem draw_any {m : Nat} (hok : drawOk ops m = true) {σ : St} {X : Nat → SV} {K : St → Prop} (hstp : ∀ i o, i < m → ops[i]? = some o → Stp E ops o (seqS ops σ X i) (X i)) (hlast : pops E ops (ops.toList.drop m) K (seqS ops σ X m)) {n : Nat} {loc : Nat → Value}
   (hd : ∀ o ∈ ops.toList, ∀ t, o.dst = some t → t < n) (hQ : ∀ τ a' w' loc', K τ → Inv E.gpv w0 A0 τ a' w' loc' → a'.tmps.size = n → (n ≤ 1000000 → ∀ j, 1000000 ≤ j → loc' j = loc j) → Q .normal a' w') :
   ∀ (k : Nat) (L : Array Bool) (a : Act) (w : World), left m L = k → L.size = ops.size → (∀ i, m ≤ i → i < ops.size → L.getD i true = false) → Closed ops L → a.tmps.size = n →
     Inv E.gpv w0 A0 (tau ops m σ X fun i => L.getD i true) a w loc → wpAny E.P .any ops Q (k + (ops.size - m)) L a w := by
 obtain ⟨hm, hnames, hu, hpre, hlow⟩ := drawOk_spec hok
 intro k
 induction k with
 | zero =>
   intro L a w hk hL hhi hc hsz h
   have hall : ∀ i, i < m → L.getD i true = true := by
     intro i hi
     cases e : L.getD i true with
     | true => rfl
     | false =>
       have hmem : i ∈ (List.range m).filter fun i => !L.getD i true := List.mem_filter.2 ⟨by simpa using hi, by rw [e]; rfl⟩
       have := List.eq_nil_of_length_eq_zero hk
       rw [this] at hmem; cases hmem
   have heq : tau ops m σ X (fun i => L.getD i true) = seqS ops σ X m := by
     rw [seqS_tau hu m (Nat.le_refl _)]
     have : ∀ t, (tau ops m σ X fun i => L.getD i true).s t = (tau ops m σ X fun i => decide (i < m)).s t := by
       intro t
       by_cases hex : ∃ i, i < m ∧ gslot ops i = some t
       · obtain ⟨i, h1, h2⟩ := hex
         rw [tau_hit hu h1 (hall i h1) h2, tau_hit hu h1 (by simpa using h1) h2]
       · rw [tau_miss (fun i h1 _ h3 => hex ⟨i, h1, h3⟩), tau_miss (fun i h1 _ h3 => hex ⟨i, h1, h3⟩)]
     simp only [tau] at this ⊢
     congr 1
     exact funext this
   rw [heq] at h
   have hlen : (ops.toList.drop m).length = ops.size - m := by simp
   rw [Nat.zero_add, ← hlen]
   refine tail_any hlow hpre _ m L a w (Nat.le_refl _) (fun j => by rw [List.getElem?_drop, Array.getElem?_toList]) (by simp; omega) hL (fun i hi => ⟨fun h1 => ?_, fun h1 => hall i h1⟩) hc ?_
   · rcases Nat.lt_or_ge i m with h2 | h2
     · exact h2
     · rw [hhi i h2 hi] at h1; cases h1
   · exact pops_sound _ _ a w loc K h (fun o ho t ht => by rw [hsz]; exact hd o (List.mem_of_mem_drop ho) t ht) hlast (fun τ a' w' loc' h1 h2 h3 h4 => hQ τ a' w' loc' h1 h2 (h3.trans hsz) (fun hn => h4 (by rw [hsz]; exact hn)))
 | succ k ih =>
   intro L a w hk hL hhi hc hsz h
   have getF : ∀ i, i < ops.size → L.getD i false = L.getD i true := fun i hi => by simp [Array.getD, hL, hi]
   have hrs : k + 1 + (ops.size - m) = (k + (ops.size - m)) + 1 := by omega
   rw [hrs]
   obtain ⟨i0, hi0, hi0L, hmin⟩ : ∃ i, i < m ∧ L.getD i true = false ∧ ∀ j, j < i → L.getD j true = true := by
     have hex : ∃ i, i < m ∧ L.getD i true = false := by
       have hne : ((List.range m).filter fun i => !L.getD i true) ≠ [] := fun e => by simp only [left] at hk; rw [e] at hk; cases hk
       obtain ⟨x, hx⟩ := List.exists_mem_of_ne_nil _ hne
       have := List.mem_filter.1 hx
       exact ⟨x, by simpa using this.1, by simpa using this.2⟩
     clear hk ih
     obtain ⟨i, h1, h2⟩ := hex
     induction i using Nat.strongRecOn with
     | _ i ihi =>
       by_cases hh : ∀ j, j < i → L.getD j true = true
       · exact ⟨i, h1, h2, hh⟩
       · obtain ⟨j, hj⟩ := Classical.not_forall.1 hh
         obtain ⟨hj1, hj2⟩ := Classical.not_imp.1 hj
         exact ihi j hj1 (by omega) (by simpa using hj2)
   have hready : i0 ∈ Region.ready .any ops L := by
     have ho : ops[i0]? = some ops[i0] := Array.getElem?_eq_getElem (by omega)
     refine mem_ready.2 ⟨hi0L, _, ho, fun e he hb => ?_⟩
     have := hlow i0 _ ho e he hb
     rw [getF _ (by omega)]
     exact hmin _ this
   refine ⟨fun h0 => (by rw [h0] at hready; cases hready), fun i hi => ?_⟩
   obtain ⟨hiL, o, ho, hall⟩ := mem_ready.1 hi
   have hin := (Array.getElem?_eq_some_iff.1 ho).1
   have him : i < m := by
     rcases Nat.lt_or_ge i m with h1 | h1
     · exact h1
     · have := pre_listed hc i o ho hall i0 (hpre i i0 h1 hin (by omega))
       rw [getF _ (by omega), hi0L] at this; cases this
   have hgi : gslot ops i = o.dst := by simp [gslot, ho]
   have hsame : ∀ t, t ∈ Oper.names ops o → (seqS ops σ X i).s t = (tau ops m σ X fun i => L.getD i true).s t := by
     intro t ht
     rw [seqS_tau hu i (by omega)]
     by_cases hex : ∃ q, q < m ∧ gslot ops q = some t
     · obtain ⟨q, h1, h2⟩ := hex
       by_cases hqi : q = i
       · subst hqi
         rw [tau_miss (fun j h3 h4 h5 => ?_), tau_miss (fun j h3 h4 h5 => ?_)]
         · have := hu j q t h3 h1 h5 h2; subst this; rw [hiL] at h4; cases h4
         · have := hu j q t h3 h1 h5 h2; subst this; simp at h4
       · rcases hnames q i t o h1 hqi h2 ho ht with ⟨h3, h4⟩ | ⟨h3, h4⟩
         · have h5 := pre_listed hc i o ho hall q h4
           rw [getF _ (by omega)] at h5
           rw [tau_hit hu h1 (by simpa using h3) h2, tau_hit hu h1 h5 h2]
         · have hoq : ops[q]? = some ops[q] := Array.getElem?_eq_getElem (by omega)
           have h5 : L.getD q true = false := by
             cases e : L.getD q true with
             | false => rfl
             | true =>
               have := pre_listed hc q _ hoq (fun e' he' hb' => hc q _ hoq (by rw [getF _ (by omega)]; exact e) e' he' hb') i h4
               rw [getF _ hin, hiL] at this; cases this
           rw [tau_miss (fun j h6 h7 h8 => ?_), tau_miss (fun j h6 h7 h8 => ?_)]
           · have := hu j q t h6 h1 h8 h2; subst this; rw [h5] at h7; cases h7
           · have := hu j q t h6 h1 h8 h2; subst this; simp at h7; omega
     · rw [tau_miss (fun j h3 _ h5 => hex ⟨j, h3, h5⟩), tau_miss (fun j h3 _ h5 => hex ⟨j, h3, h5⟩)]
   have hos : (seqS ops σ X i).o = (tau ops m σ X fun i => L.getD i true).o := by rw [seqS_tau hu i (by omega)]; rfl
   have hop : ∀ K' : SV → Prop, ppop E o.op (seqS ops σ X i) K' → ppop E o.op (tau ops m σ X fun i => L.getD i true) K' := fun K' h' =>
     ppop_local hos (fun t ht => hsame t (by simp only [Oper.names, List.mem_append, List.mem_filterMap]; exact .inl (.inr ⟨.tmp t, by simpa using ht, rfl⟩))) h'
   have hL' : ∀ j, j < ops.size → ((L.setIfInBounds i true).getD j true) = (L.getD j true || j == i) := by
     intro j hj
     by_cases e : j = i
     · subst e; simp [Array.getD, hL, hj]
     · rw [getD_set_ne true (Ne.symm e)]; simp [e]
   have next : ∀ (v : Value) (a' : Act) (w' : World), Inv E.gpv w0 A0 ((tau ops m σ X fun i => L.getD i true).put o.dst (X i)) a' w' loc → a'.tmps.size = n → wpAny E.P .any ops Q (k + (ops.size - m)) (L.setIfInBounds i true) a' w' := by
     intro v a' w' hinv hsz'
     refine ih (L.setIfInBounds i true) a' w' ?_ (by simpa using hL) (fun j h1 h2 => ?_) ?_ hsz' ?_
     ·
       have h1 : ((List.range m).filter fun j => !(L.setIfInBounds i true).getD j true) = ((List.range m).filter fun j => !L.getD j true).filter fun j => !(j == i) := by
         rw [List.filter_filter]
         apply List.filter_congr
         intro j hj
         rw [hL' j (by simp at hj; omega)]
         cases L.getD j true <;> cases (j == i) <;> rfl
       have hnd : ((List.range m).filter fun j => !L.getD j true).Nodup := List.nodup_range.filter _
       have hmem : i ∈ ((List.range m).filter fun j => !L.getD j true) := List.mem_filter.2 ⟨by simpa using him, by rw [hiL]; rfl⟩
       have h2 : ((List.range m).filter fun j => !L.getD j true).erase i = ((List.range m).filter fun j => !L.getD j true).filter fun j => !(j == i) := by
         rw [hnd.erase_eq_filter]; rfl
       simp only [left] at hk ⊢
       rw [h1, ← h2, List.length_erase_of_mem hmem, hk]
       rfl
     · rw [getD_set_ne true (by omega)]; exact hhi j h1 h2
     · intro j o' ho' hj e he hb
       by_cases ej : j = i
       · subst ej
         rw [ho] at ho'; injection ho' with ho'; subst ho'
         exact getD_set_true (hall e he hb)
       · rw [getD_set_ne false (Ne.symm ej)] at hj
         exact getD_set_true (hc j o' ho' hj e he hb)
     · rw [tau_put hu him (S := fun i => L.getD i true) (fun j hj => hL' j (by omega)), hgi]
       exact hinv
   have hdo : ∀ t, o.dst = some t → t < a.tmps.size := fun t ht => by rw [hsz]; exact hd o (by rw [Array.mem_toList_iff]; exact Array.mem_of_getElem? ho) t ht
   have run : (∀ K' : SV → Prop, K' (X i) → ppop E o.op (seqS ops σ X i) K') → o.wp E.P a w (wpAny E.P .any ops Q (k + (ops.size - m)) (L.setIfInBounds i true)) Q := fun hall' =>
     ppop_sound h (hop (fun x => x = X i) (hall' _ rfl)) _ fun x v w' hx hRS hb => by
       subst hx
       exact next v _ w' ((h.grow hb).put hdo hRS) (by rw [put_size]; exact hsz)
   have hst := hstp i o him ho
   unfold wpOp
   simp only [ho]
   cases hgd : o.guard with
   | none =>
     simp only [Stp, hgd] at hst
     rw [if_pos (by simp [Region.wanted, hgd])]
     exact .inl (run hst)
   | some g =>
     obtain ⟨j, want⟩ := g
     simp only [Stp, hgd] at hst
     rcases hst with ⟨t, vs, ht, hs, hx⟩ | ⟨t, b, ht, hs, hcase⟩
     · have hs' : (tau ops m σ X fun i => L.getD i true).s t = .sh (.val (.tuple vs)) := by
         rw [← hsame t (by simp [Oper.names, hgd, ht]), hs]
       rw [unwanted_of h hgd ht hs', if_neg (by simp)]
       exact next undef _ w (h.put hdo (by rw [hx]; exact .sh (.val _))) (by rw [put_size]; exact hsz)
     have hs' : (tau ops m σ X fun i => L.getD i true).s t = .sh (.val (.bool b)) := by
       rw [← hsame t (by simp [Oper.names, hgd, ht]), hs]
     rw [wanted_of h hgd ht hs']
     rcases hcase with ⟨rfl, hall'⟩ | ⟨hb', hx⟩
     · rw [if_pos (by simp)]
       exact .inl (run hall')
     · rw [if_neg (by rw [hb']; cases want <;> simp)]
       exact next undef _ w (h.put hdo (by rw [hx]; exact .sh (.val _))) (by rw [put_size]; exact hsz)
theorem draw_sound {id m : Nat} (hmix : E.P.follows .mixedOrders = true) (hok : drawOk ops m = true) {σ : St} {a : Act} {w : World} {loc : Nat → Value} (h : Inv E.gpv w0 A0 σ a w loc) {K : St → Prop} (hd : ∀ o ∈ ops.toList, ∀ t, o.dst = some t → t < a.tmps.size)
   (hp : pqs E ops m ops.toList K σ) (hQ : ∀ τ a' w' loc', K τ → Inv E.gpv w0 A0 τ a' w' loc' → a'.tmps.size = a.tmps.size → Trk a loc loc' → Q .normal a' w') : (Code.region id ops true).wp E.P Q a w := by
 obtain ⟨hm, _⟩ := drawOk_spec hok
 obtain ⟨X, _, h2, h3⟩ := pqs_ex m 0 ops.toList σ K (fun _ => .sh .any) (fun j => by simp) (by simpa using hm) hp
 rw [Nat.zero_add] at h3
 refine wp_region_any hmix ?_
 have hl : left m (Array.replicate ops.size false) = m := by
   simp only [left]
   rw [List.filter_eq_self.2 (fun i hi => by simp at hi; simp [Array.getD, show i < ops.size by omega])]
   simp
 have := draw_any (w0 := w0) (A0 := A0) (Q := Q) hok (fun i o hi ho => h2 i o (Nat.zero_le _) (by omega) ho) h3 hd hQ m (Array.replicate ops.size false) a { w with drawn := w.drawn + 1 } hl (by simp) (fun i _ hi => by simp [Array.getD, hi]) (fun j o ho hj e he hb => by
   by_cases hjl : j < ops.size
   · simp [Array.getD, hjl] at hj
   · simp [Array.getD, hjl] at hj) rfl (by
   have : tau ops m σ X (fun i => (Array.replicate ops.size false).getD i true) = σ := by
     have hs : ∀ t, (tau ops m σ X (fun i => (Array.replicate ops.size false).getD i true)).s t = σ.s t := fun t => tau_miss (fun i hi hS => by simp [Array.getD, show i < ops.size by omega] at hS)
     cases σ with
     | mk s o => simp only [tau] at hs ⊢; congr 1; exact funext hs
   rw [this]
   exact h.grow (Below.drew (Below.refl _ _)))
 rwa [show m + (ops.size - m) = ops.size by omega] at this
end
end Go.Pw
