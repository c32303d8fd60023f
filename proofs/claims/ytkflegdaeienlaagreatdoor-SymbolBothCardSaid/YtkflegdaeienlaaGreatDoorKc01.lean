/- Merged from the working texts PwA. -/
import Derived.WalkKit
import Derived.Below
import Derived.Maps.AppendAt
import Derived.Laws.IdiomCopy
import Derived.Laws.Tables
import Derived.Laws.Rows
import Derived.Orders
import Derived.Deep.RegionWith
set_option linter.all false
set_option maxHeartbeats 400000
set_option linter.unusedVariables false
set_option linter.unusedSimpArgs false
namespace Go.Pw
open Go.RowKit
inductive PV where
 | any
 | val (v : Value)
 | sl (rows : List (List PV))
 | agg (cs : List PV)
 | tup (vs : List PV)
 | ea (cs : List PV)
 | fn (g : FuncId) (caps : List PV)
 | e0
 | mp (ds : List (ByteArray × PV))
 deriving Inhabited
inductive SV where
 | sh (d : PV)
 | bp (k off : Nat)
 | rp (k sz i j : Nat)
 | row (k : Nat)
 | sub (k sz i n : Nat)
 | mr (k : Nat)
 | mg (pre : List PV) (k : Nat)
 deriving Inhabited
inductive Ob where
 | box (cs : List SV)
 | rw (e : TypeId) (sz : Nat) (rows : List (List SV))
 | mp (ds : List (ByteArray × PV))
 | it (cur : Option (ByteArray × PV)) (rem : List (ByteArray × PV))
structure St where
 s : Nat → SV
 o : Nat → Option Ob
def maxN : Nat := 140737488355328
inductive R (w : World) (A : Nat → Prop) : Value → PV → Prop
 | any (v : Value) : R w A v .any
 | val (v : Value) : R w A v (.val v)
 | nilsl (a : Option Addr) (c : Nat) (hc : a = none → c = 0) : R w A (.slice a 0 c) (.sl [])
 | sl {b o n c sz : Nat} {rows : List (List PV)} (f : Nat → Nat → Value) (hn : rows.length = n) (h0 : 0 < n) (hsz : 0 < sz) (hc : n ≤ c) (hm : n ≤ maxN) (hA : ¬ A b) (hz : ∀ r ∈ rows, r.length = sz)
     (hcell : ∀ i j, i < n → j < sz → w.cell? ⟨b, o + (i * sz + j), none⟩ = some (f i j))
     (hone : ∀ i j, i < n → j < sz → (f i j).oneCell' = true)
     (hr : ∀ i j r d, rows[i]? = some r → r[j]? = some d → R w A (f i j) d) : R w A (.slice (some ⟨b, o, none⟩) n c) (.sl rows)
 | agg {cs : Array Value} {ds : List PV} (hn : cs.size = ds.length) (h1 : ∀ j, j < cs.size → (cs.getD j undef).oneCell' = true)
     (hr : ∀ j d, ds[j]? = some d → R w A (cs.getD j undef) d) : R w A (.agg cs) (.agg ds)
 | tup {vs : Array Value} {ds : List PV} (hn : vs.size = ds.length) (hr : ∀ j d, ds[j]? = some d → R w A (vs.getD j undef) d) : R w A (.tuple vs) (.tup ds)
 | ea {b o : Nat} {ds : List PV} (f : Nat → Value) (h0 : 0 < ds.length) (hA : ¬ A b) (hcell : ∀ j, j < ds.length → w.cell? ⟨b, o + j, none⟩ = some (f j)) (hone : ∀ j, j < ds.length → (f j).oneCell' = true)
     (hr : ∀ j d, ds[j]? = some d → R w A (f j) d) : R w A (.pointer (some ⟨b, o, none⟩)) (.ea ds)
 | e0 (a : Option Addr) : R w A (.slice a 0 0) .e0
 | fn {g : FuncId} {caps : List PV} {vs : Array Value} (hn : vs.size = caps.length) (hr : ∀ j d, caps[j]? = some d → R w A (vs.getD j undef) d) : R w A (.func (.func g) #[] vs) (.fn g caps)
 | mp {b clock : Nat} {es : Array MapEntry} (es' : List MapEntry) {ds : List (ByteArray × PV)} (hA : ¬ A b) (hg : w.heap[b]? = some (.map es clock)) (hp : es.toList.Perm es') (hn : es'.length = ds.length) (hd : (ds.map (·.1)).Nodup) (hb : (es.toList.map (·.born)).Nodup)
     (hc : ∀ x ∈ es.toList, x.born < clock) (hk : ∀ (j : Nat) (e : MapEntry) (k : ByteArray) (d : PV), es'[j]? = some e → ds[j]? = some (k, d) → e.key = .string k) (hr : ∀ (j : Nat) (e : MapEntry) (k : ByteArray) (d : PV), es'[j]? = some e → ds[j]? = some (k, d) → R w A e.val d) : R w A (.map (some b)) (.mp ds)
theorem R.step {w w' : World} {A A' : Nat → Prop} {v : Value} {d : PV} (h : R w A v d) (hs : ∀ b, b < w.heap.size → ¬ A b → w'.heap[b]? = w.heap[b]?)
   (hA : ∀ b, b < w.heap.size → A' b → A b) : R w' A' v d := by
 have lt : ∀ {b o : Nat} {x : Value}, w.cell? ⟨b, o, none⟩ = some x → b < w.heap.size := fun h => World.block_lt_of_cell? w _ h
 have same : ∀ {b o : Nat} {x : Value}, ¬ A b → w.cell? ⟨b, o, none⟩ = some x → w'.cell? ⟨b, o, none⟩ = some x := fun {b o x} hb hx => by
   rw [World.cell?_of_block (w := w) (hs b (lt hx) hb)]; exact hx
 induction h with
 | any v => exact .any v
 | val v => exact .val v
 | nilsl a c hc => exact .nilsl a c hc
 | @sl b o n c sz rows f hn h0 hsz hc hm hAb hz hcell hone hr ih =>
   exact .sl f hn h0 hsz hc hm (fun hb => hAb (hA _ (lt (hcell 0 0 h0 hsz)) hb)) hz (fun i j hi hj => same hAb (hcell i j hi hj)) hone ih
 | agg hn h1 hr ih => exact .agg hn h1 ih
 | tup hn hr ih => exact .tup hn ih
 | @ea b o ds f h0 hAb hcell hone hr ih =>
   exact .ea f h0 (fun hb => hAb (hA _ (lt (hcell 0 h0)) hb)) (fun j hj => same hAb (hcell j hj)) hone ih
 | fn hn hr ih => exact .fn hn ih
 | e0 a => exact .e0 a
 | @mp b clock es es' ds hAb hg hp hn hd hb hc hk hr ih =>
   have hlt : b < w.heap.size := (Array.getElem?_eq_some_iff.1 hg).1
   exact .mp es' (fun hb => hAb (hA _ hlt hb)) (by rw [hs b hlt hAb]; exact hg) hp hn hd hb hc hk ih
def blk : Value → Option Nat
 | .pointer (some a) => some a.block
 | .slice (some a) _ _ => some a.block
 | .map (some b) => some b
 | _ => none
inductive RS (w : World) (A : Nat → Prop) (loc : Nat → Value) : Value → SV → Prop
 | sh {v : Value} {d : PV} (h : R w A v d) : RS w A loc v (.sh d)
 | bp {k off b : Nat} (h : loc k = .pointer (some ⟨b, 0, none⟩)) : RS w A loc (.pointer (some ⟨b, off, none⟩)) (.bp k off)
 | rp {k sz i j b n c : Nat} (h : loc k = .slice (some ⟨b, 0, none⟩) n c) : RS w A loc (.pointer (some ⟨b, i * sz + j, none⟩)) (.rp k sz i j)
 | row {k : Nat} {a : Option Addr} {n c : Nat} (h : loc k = .slice a n c) : RS w A loc (.slice a n c) (.row k)
 | sub {k sz i n b m c c' : Nat} (h : loc k = .slice (some ⟨b, 0, none⟩) m c) (hn : n ≤ c') : RS w A loc (.slice (some ⟨b, i * sz, none⟩) n c') (.sub k sz i n)
 | mr {k b : Nat} (h : loc k = .map (some b)) : RS w A loc (.map (some b)) (.mr k)
 | mg {k b : Nat} {pre : List PV} {cs : Array Value} (h : loc k = .map (some b)) (hn : cs.size = pre.length + 1) (hl : cs.getD pre.length undef = .map (some b)) (h1 : ∀ j, j < cs.size → (cs.getD j undef).oneCell' = true)
     (hr : ∀ j d, pre[j]? = some d → R w A (cs.getD j undef) d) : RS w A loc (.agg cs) (.mg pre k)
def SV.ment (k : Nat) : SV → Bool
 | .sh _ => false
 | .bp k' _ | .rp k' _ _ _ | .row k' | .sub k' _ _ _ | .mr k' | .mg _ k' => k' == k
def SV.kill (k : Nat) (x : SV) : SV := if x.ment k then .sh .any else x
theorem RS.step {w w' : World} {A A' : Nat → Prop} {loc loc' : Nat → Value} {v : Value} {x : SV} (h : RS w A loc v x) (hs : ∀ b, b < w.heap.size → ¬ A b → w'.heap[b]? = w.heap[b]?)
   (hA : ∀ b, b < w.heap.size → A' b → A b) (hl : ∀ k, x.ment k = true → loc' k = loc k) : RS w' A' loc' v x := by
 cases h with
 | sh h => exact .sh (h.step hs hA)
 | bp h => exact .bp (by rw [hl _ (by simp [SV.ment])]; exact h)
 | rp h => exact .rp (by rw [hl _ (by simp [SV.ment])]; exact h)
 | row h => exact .row (by rw [hl _ (by simp [SV.ment])]; exact h)
 | sub h hn => exact .sub (by rw [hl _ (by simp [SV.ment])]; exact h) hn
 | mr h => exact .mr (by rw [hl _ (by simp [SV.ment])]; exact h)
 | mg h hn hl' h1 hr => exact .mg (by rw [hl _ (by simp [SV.ment])]; exact h) hn hl' h1 (fun j d hd => (hr j d hd).step hs hA)
inductive ObAt (w : World) (A : Nat → Prop) (loc : Nat → Value) (B : Nat) : Value → Ob → Prop
 | box {b : Nat} {e : TypeId} {xs : Array Value} {cs : List SV} (hg : w.heap[b]? = some (.cells xs e (0, 0))) (hn : xs.size = cs.length) (h1 : ∀ j, j < xs.size → (xs.getD j undef).oneCell' = true)
     (hr : ∀ j x, cs[j]? = some x → RS w A loc (xs.getD j undef) x) : ObAt w A loc B (.pointer (some ⟨b, 0, none⟩)) (.box cs)
 | rw {v : Value} {e : TypeId} {sz : Nat} {rows : List (List SV)} (xs : List Value) (hz : ∀ r ∈ rows, r.length = sz) (hown : w.ownsRow B e sz v rows.length xs) (hsz : 0 < sz) (hm : rows.length ≤ maxN)
     (h1 : ∀ x ∈ xs, x.oneCell' = true) (hr : ∀ i j r x, rows[i]? = some r → r[j]? = some x → RS w A loc (xs.getD (i * sz + j) undef) x) : ObAt w A loc B v (.rw e sz rows)
 | mp {b clock : Nat} {es : Array MapEntry} (es' : List MapEntry) {ds : List (ByteArray × PV)} (hg : w.heap[b]? = some (.map es clock)) (hp : es.toList.Perm es') (hn : es'.length = ds.length) (hd : (ds.map (·.1)).Nodup) (hb : (es.toList.map (·.born)).Nodup)
     (hc : ∀ x ∈ es.toList, x.born < clock) (hk : ∀ (j : Nat) (e : MapEntry) (k : ByteArray) (d : PV), es'[j]? = some e → ds[j]? = some (k, d) → e.key = .string k) (hr : ∀ (j : Nat) (e : MapEntry) (k : ByteArray) (d : PV), es'[j]? = some e → ds[j]? = some (k, d) → R w A e.val d) : ObAt w A loc B (.map (some b)) (.mp ds)
 | it {b m clock : Nat} {seen : Array Nat} {es : Array MapEntry} (rem' : List MapEntry) {cur : Option (ByteArray × PV)} {rem : List (ByteArray × PV)} (hg : w.heap[b]? = some (.mapIter (some m) clock seen clock)) (hA : ¬ A m) (hm : w.heap[m]? = some (.map es clock))
     (hb : (es.toList.map (·.born)).Nodup) (hc : ∀ x ∈ es.toList, x.born < clock) (hp : (es.toList.filter fun e => !seen.contains e.born).Perm rem') (hn : rem'.length = rem.length)
     (hk : ∀ (j : Nat) (e : MapEntry) (k : ByteArray) (d : PV), rem'[j]? = some e → rem[j]? = some (k, d) → e.key = .string k) (hr : ∀ (j : Nat) (e : MapEntry) (k : ByteArray) (d : PV), rem'[j]? = some e → rem[j]? = some (k, d) → R w A e.val d)
     (hcur : ∀ k d, cur = some (k, d) → ∃ (seen' : Array Nat) (e : MapEntry), seen = seen'.push e.born ∧ e ∈ es.toList ∧ e.key = .string k ∧ R w A e.val d) : ObAt w A loc B (.pointer (some ⟨b, 0, none⟩)) (.it cur rem)
def Ob.ment (k : Nat) : Ob → Prop
 | .box cs => ∃ x ∈ cs, x.ment k = true
 | .rw _ _ rows => ∃ r ∈ rows, ∃ x ∈ r, x.ment k = true
 | .mp _ | .it .. => False
theorem ownsRow_lt {w : World} {B : Nat} {e : TypeId} {sz n : Nat} {v : Value} {xs : List Value} (h : w.ownsRow B e sz v n xs) {b : Nat} (hb : blk v = some b) : B ≤ b ∧ b < w.heap.size := by
 rcases h.2 with ⟨rfl, _⟩ | ⟨g, cap, cur, rfl, hB, hh, _⟩
 · simp [blk] at hb
 · simp [blk] at hb; subst hb; exact ⟨hB, (Array.getElem?_eq_some_iff.1 hh).1⟩
theorem ownsRow_same {w w' : World} {B : Nat} {e : TypeId} {sz n : Nat} {v : Value} {xs : List Value} (h : w.ownsRow B e sz v n xs) (hb : ∀ b, blk v = some b → w'.heap[b]? = w.heap[b]?) : w'.ownsRow B e sz v n xs := by
 obtain ⟨h1, h2⟩ := h
 refine ⟨h1, ?_⟩
 rcases h2 with h2 | ⟨g, cap, cur, rfl, hB, hh, r⟩
 · exact .inl h2
 · exact .inr ⟨g, cap, cur, rfl, hB, by rw [hb g rfl]; exact hh, r⟩
theorem ownsRow_form {w : World} {B : Nat} {e : TypeId} {sz n : Nat} {v : Value} {xs : List Value} (h : w.ownsRow B e sz v n xs) : ∃ a c, v = .slice a n c := by
 rcases h.2 with ⟨rfl, rfl⟩ | ⟨g, cap, cur, rfl, _⟩ <;> exact ⟨_, _, rfl⟩
theorem ObAt.step {w w' : World} {A A' : Nat → Prop} {loc loc' : Nat → Value} {B : Nat} {v : Value} {ob : Ob} (h : ObAt w A loc B v ob) (hs : ∀ b, b < w.heap.size → ¬ A b → w'.heap[b]? = w.heap[b]?)
   (hA : ∀ b, b < w.heap.size → A' b → A b) (hl : ∀ k, ob.ment k → loc' k = loc k) (hb : ∀ b, blk v = some b → w'.heap[b]? = w.heap[b]?) : ObAt w' A' loc' B v ob := by
 cases h with
 | box hg hn h1 hr =>
   exact .box (by rw [hb _ rfl]; exact hg) hn h1 (fun j x hx => (hr j x hx).step hs hA (fun k hk => hl k ⟨x, List.mem_of_getElem? hx, hk⟩))
 | rw xs hz hown hsz hm h1 hr =>
   exact .rw xs hz (ownsRow_same hown hb) hsz hm h1 (fun i j r x hi hx => (hr i j r x hi hx).step hs hA (fun k hk => hl k ⟨r, List.mem_of_getElem? hi, x, List.mem_of_getElem? hx, hk⟩))
 | mp es' hg hp hn hd hbn hc hk hr => exact .mp es' (by rw [hb _ rfl]; exact hg) hp hn hd hbn hc hk (fun j e k d he hd => (hr j e k d he hd).step hs hA)
 | @it b m clock seen es rem' cur rem hg hAm hm hbn hc hp hn hk hr hcur =>
   have hlt : m < w.heap.size := (Array.getElem?_eq_some_iff.1 hm).1
   exact .it rem' (by rw [hb _ rfl]; exact hg) (fun h => hAm (hA _ hlt h)) (by rw [hs m hlt hAm]; exact hm) hbn hc hp hn hk (fun j e k d he hd => (hr j e k d he hd).step hs hA) (fun k d e => by
     obtain ⟨s', x, h1, h2, h3, h4⟩ := hcur k d e
     exact ⟨s', x, h1, h2, h3, h4.step hs hA⟩)
def act (σ : St) (loc : Nat → Value) (b : Nat) : Prop := ∃ k ob, σ.o k = some ob ∧ blk (loc k) = some b
structure Base where
 w : World
 X : Nat → Prop
 hX : ∀ b, X b → b < w.heap.size
structure Fr (f : Base) (w : World) : Prop where
 os : w.os = f.w.os
 tape : w.tape = f.w.tape
 output : w.output = f.w.output
 size : f.w.heap.size ≤ w.heap.size
 block : ∀ k, f.X k → w.heap[k]? = f.w.heap[k]?
theorem Fr.next {f : Base} {w w' : World} (h : Fr f w) (h1 : w'.os = w.os) (h2 : w'.tape = w.tape) (h3 : w'.output = w.output) (h4 : w.heap.size ≤ w'.heap.size) (h5 : ∀ k, k < w.heap.size → f.X k → w'.heap[k]? = w.heap[k]?) : Fr f w' :=
 ⟨h1.trans h.os, h2.trans h.tape, h3.trans h.output, Nat.le_trans h.size h4, fun k hk => (h5 k (Nat.lt_of_lt_of_le (f.hX k hk) h.size) hk).trans (h.block k hk)⟩
theorem Fr.below {f : Base} {w w' : World} (h : Fr f w) (hb : Below w.heap.size w w') : Fr f w' := h.next hb.os hb.tape hb.output hb.size (fun k hk _ => hb.block k hk)
theorem Fr.new {f : Base} {w : World} (h : Fr f w) {b : Nat} (hb : w.heap.size ≤ b) : ¬ f.X b := fun hx => by
 have := f.hX b hx
 have := h.size
 omega
structure Inv (gpv : Nat → PV) (w0 : Base) (A0 : Nat → Prop) (σ : St) (a : Act) (w : World) (loc : Nat → Value) : Prop where
 iB : Fr w0 w
 iA : ∀ b, A0 b → b < w.heap.size
 iD : a.defers = []
 iS : ∀ t, RS w (fun b => A0 b ∨ act σ loc b) loc (a.tmps.getD t undef) (σ.s t)
 iO : ∀ k ob, σ.o k = some ob → ObAt w (fun b => A0 b ∨ act σ loc b) loc 0 (loc k) ob
 iJ : ∀ k k' ob ob' b, σ.o k = some ob → σ.o k' = some ob' → blk (loc k) = some b → blk (loc k') = some b → k = k'
 iF : ∀ k ob b, σ.o k = some ob → blk (loc k) = some b → (¬ w0.X b ∧ ¬ A0 b) ∧ b < w.heap.size
 iG : ∀ g, R w (fun b => A0 b ∨ act σ loc b) (.pointer (some ⟨g, 0, none⟩)) (gpv g)
def St.put (σ : St) (d : Option Nat) (x : SV) : St := match d with
 | some t => { σ with s := fun i => if i = t then x else σ.s i }
 | none => σ
def St.setO (σ : St) (k : Nat) (ob : Ob) : St := { σ with o := fun i => if i = k then some ob else σ.o i }
def Ob.kill (k : Nat) : Ob → Ob
 | .box cs => .box (cs.map (SV.kill k))
 | .rw e sz rows => .rw e sz (rows.map fun r => r.map (SV.kill k))
 | x => x
def St.kill (σ : St) (k : Nat) : St := { s := fun i => (σ.s i).kill k, o := fun i => if i = k then none else (σ.o i).map (Ob.kill k) }
section
variable {gpv : Nat → PV} {w0 : Base} {A0 : Nat → Prop} {σ : St} {a : Act} {w : World} {loc : Nat → Value}
theorem Inv.fresh (h : Inv gpv w0 A0 σ a w loc) {b : Nat} (hb : w.heap.size ≤ b) : ¬ w0.X b ∧ ¬ A0 b :=
 ⟨h.iB.new hb, fun hA => by have := h.iA b hA; omega⟩
theorem Inv.grow (h : Inv gpv w0 A0 σ a w loc) {w' : World} (hb : Below w.heap.size w w') : Inv gpv w0 A0 σ a w' loc := by
 have hs : ∀ b, b < w.heap.size → ¬ (A0 b ∨ act σ loc b) → w'.heap[b]? = w.heap[b]? := fun b hlt _ => hb.block b hlt
 have hA : ∀ b, b < w.heap.size → (A0 b ∨ act σ loc b) → (A0 b ∨ act σ loc b) := fun _ _ h => h
 exact {
   iB := h.iB.below hb
   iA := fun b h9 => Nat.lt_of_lt_of_le (h.iA b h9) hb.size
   iD := h.iD
   iS := fun t => (h.iS t).step hs hA (fun _ _ => rfl)
   iO := fun k ob ho => (h.iO k ob ho).step hs hA (fun _ _ => rfl) (fun b hbk => hb.block b (h.iF k ob b ho hbk).2)
   iJ := h.iJ
   iF := fun k ob b ho hbk => ⟨(h.iF k ob b ho hbk).1, Nat.lt_of_lt_of_le (h.iF k ob b ho hbk).2 hb.size⟩
   iG := fun g => (h.iG g).step hs hA }
theorem Act.put_get (a : Act) (d : Option Nat) (v : Value) (hd : ∀ t, d = some t → t < a.tmps.size) (t : Nat) : (a.put d v).tmps.getD t undef = if d = some t then v else a.tmps.getD t undef := by
 cases d with
 | none => simp [Act.put]
 | some k =>
   have hk := hd k rfl
   simp only [Act.put, Option.some.injEq]
   by_cases h : k = t
   · subst h; simp [Array.getD, hk]
   · simp [Array.getD_eq_getD_getElem?, Array.getElem?_setIfInBounds, h]
theorem Inv.put (h : Inv gpv w0 A0 σ a w loc) {d : Option Nat} {v : Value} {x : SV} (hd : ∀ t, d = some t → t < a.tmps.size) (hx : RS w (fun b => A0 b ∨ act σ loc b) loc v x) : Inv gpv w0 A0 (σ.put d x) (a.put d v) w loc := by
 have ho : (σ.put d x).o = σ.o := by cases d <;> rfl
 have ha : act (σ.put d x) loc = act σ loc := by unfold act; rw [ho]
 refine { iB := h.iB, iA := h.iA, iD := ?_, iS := ?_, iO := ?_, iJ := ?_, iF := ?_, iG := ?_ }
 · cases d <;> simpa [Act.put] using h.iD
 · intro t
   rw [ha, Act.put_get a d v hd t]
   cases d with
   | none => simpa [St.put] using h.iS t
   | some k =>
     by_cases e : k = t
     · subst e; simpa [St.put] using hx
     · simp only [St.put, Option.some.injEq, if_neg e, if_neg (fun h' : t = k => e h'.symm)]; exact h.iS t
 · intro k ob; rw [ho, ha]; exact h.iO k ob
 · intro k k' ob ob' b; rw [ho]; exact h.iJ k k' ob ob' b
 · intro k ob b; rw [ho]; exact h.iF k ob b
 · intro g; rw [ha]; exact h.iG g
theorem SV.kill_ment {k k' : Nat} {x : SV} (h : (x.kill k).ment k' = true) : k' ≠ k := by
 unfold SV.kill at h
 split at h
 · simp [SV.ment] at h
 · rename_i hk
   rintro rfl
   exact hk h
theorem RS.kill {w : World} {A : Nat → Prop} {loc : Nat → Value} {v : Value} {x : SV} (h : RS w A loc v x) (k : Nat) : RS w A loc v (x.kill k) := by
 unfold SV.kill; split
 · exact .sh (.any v)
 · exact h
theorem Ob.kill_ment {k k' : Nat} {ob : Ob} (h : (ob.kill k).ment k') : k' ≠ k := by
 cases ob with
 | box cs =>
   obtain ⟨x, hx, hm⟩ := h
   obtain ⟨y, _, rfl⟩ := List.mem_map.1 hx
   exact SV.kill_ment hm
 | rw e sz rows =>
   obtain ⟨r, hr, x, hx, hm⟩ := h
   obtain ⟨q, _, rfl⟩ := List.mem_map.1 hr
   obtain ⟨y, _, rfl⟩ := List.mem_map.1 hx
   exact SV.kill_ment hm
 | mp ds => exact h.elim
 | it cur rem => exact h.elim
theorem ObAt.kill {w : World} {A : Nat → Prop} {loc : Nat → Value} {B : Nat} {v : Value} {ob : Ob} (h : ObAt w A loc B v ob) (k : Nat) : ObAt w A loc B v (ob.kill k) := by
 cases h with
 | box hg hn h1 hr =>
   refine .box hg (by simpa using hn) h1 (fun j x hx => ?_)
   simp only [List.getElem?_map, Option.map_eq_some_iff] at hx
   obtain ⟨y, hy, rfl⟩ := hx
   exact (hr j y hy).kill k
 | rw xs hz hown hsz hm h1 hr =>
   refine .rw xs (fun r hr' => ?_) (by simpa using hown) hsz (by simpa using hm) h1 (fun i j r x hi hx => ?_)
   · obtain ⟨q, hq, rfl⟩ := List.mem_map.1 hr'
     simpa using hz q hq
   · simp only [List.getElem?_map, Option.map_eq_some_iff] at hi
     obtain ⟨q, hq, rfl⟩ := hi
     simp only [List.getElem?_map, Option.map_eq_some_iff] at hx
     obtain ⟨y, hy, rfl⟩ := hx
     exact (hr i j q y hq hy).kill k
 | mp es' hg hp hn hd hbn hc hk hr => exact .mp es' hg hp hn hd hbn hc hk hr
 | it rem' hg hAm hm hbn hc hp hn hk hr hcur => exact .it rem' hg hAm hm hbn hc hp hn hk hr hcur
theorem Inv.remake (h : Inv gpv w0 A0 σ a w loc) (k : Nat) {w' : World} (hB : Fr w0 w') (hsz : w.heap.size ≤ w'.heap.size)
   (hs : ∀ b, b < w.heap.size → (∀ ob, σ.o k = some ob → blk (loc k) ≠ some b) → w'.heap[b]? = w.heap[b]?) (l : Value) (ob' : Ob)
   (hl : ∀ b, blk l = some b → (¬ w0.X b ∧ ¬ A0 b) ∧ b < w'.heap.size ∧ (w.heap.size ≤ b ∨ ∃ ob, σ.o k = some ob ∧ blk (loc k) = some b))
   (ho : ∀ A' loc', (∀ b, b < w.heap.size → A' b → (A0 b ∨ act σ loc b)) → (∀ j, j ≠ k → loc' j = loc j) → loc' k = l → ObAt w' A' loc' 0 l ob') :
   Inv gpv w0 A0 ((σ.kill k).setO k ob') a w' (fun j => if j = k then l else loc j) := by
 have hact : ∀ b, b < w.heap.size → (A0 b ∨ act ((σ.kill k).setO k ob') (fun j => if j = k then l else loc j) b) → (A0 b ∨ act σ loc b) := by
   rintro b hlt (hb | ⟨j, ob, hj, hbk⟩)
   · exact .inl hb
   · by_cases e : j = k
     · subst e
       simp only [if_true] at hbk
       rcases (hl b hbk).2.2 with h' | ⟨ob, h1, h2⟩
       · omega
       · exact .inr ⟨j, ob, h1, h2⟩
     · simp only [St.setO, St.kill, if_neg e, Option.map_eq_some_iff] at hj
       obtain ⟨ob1, h1, _⟩ := hj
       simp only [if_neg e] at hbk
       exact .inr ⟨j, ob1, h1, hbk⟩
 have hs' : ∀ b, b < w.heap.size → ¬ (A0 b ∨ act σ loc b) → w'.heap[b]? = w.heap[b]? := fun b hlt hn => hs b hlt (fun ob h1 h2 => hn (.inr ⟨k, ob, h1, h2⟩))
 have hmap : ∀ j ob, j ≠ k → ((σ.kill k).setO k ob').o j = some ob → ∃ ob1, σ.o j = some ob1 ∧ ob = ob1.kill k := by
   intro j ob e hj
   simp only [St.setO, St.kill, if_neg e, Option.map_eq_some_iff] at hj
   obtain ⟨ob1, h1, h2⟩ := hj
   exact ⟨ob1, h1, h2.symm⟩
 refine { iB := hB, iA := fun b h9 => Nat.lt_of_lt_of_le (h.iA b h9) hsz, iD := h.iD, iS := ?_, iO := ?_, iJ := ?_, iF := ?_, iG := fun g => (h.iG g).step hs' hact }
 · intro t
   refine ((h.iS t).kill k).step hs' hact (fun j hj => ?_)
   simp only [if_neg (SV.kill_ment hj)]
 · intro j ob hj
   by_cases e : j = k
   · subst e
     simp only [St.setO, if_true, Option.some.injEq] at hj
     subst hj
     simp only [if_true]
     exact ho _ _ hact (fun i hi => by simp [hi]) (by simp)
   · obtain ⟨ob1, h1, rfl⟩ := hmap j ob e hj
     simp only [if_neg e]
     refine ((h.iO j ob1 h1).kill k).step hs' hact (fun i hi => by simp only [if_neg (Ob.kill_ment hi)]) (fun b hb => ?_)
     exact hs b (h.iF j ob1 b h1 hb).2 (fun ob2 h2 h3 => e (h.iJ j k ob1 ob2 b h1 h2 hb h3))
 · intro j j' ob1 ob2 b h1 h2 hb hb'
   by_cases e : j = k
   · by_cases e' : j' = k
     · rw [e, e']
     · subst e
       obtain ⟨ob3, h3, _⟩ := hmap j' ob2 e' h2
       simp only [if_true] at hb
       simp only [if_neg e'] at hb'
       rcases (hl b hb).2.2 with h' | ⟨ob, h4, h5⟩
       · have := (h.iF j' ob3 b h3 hb').2; omega
       · exact h.iJ j j' ob ob3 b h4 h3 h5 hb'
   · by_cases e' : j' = k
     · subst e'
       obtain ⟨ob3, h3, _⟩ := hmap j ob1 e h1
       simp only [if_true] at hb'
       simp only [if_neg e] at hb
       rcases (hl b hb').2.2 with h' | ⟨ob, h4, h5⟩
       · have := (h.iF j ob3 b h3 hb).2; omega
       · exact h.iJ j j' ob3 ob b h3 h4 hb h5
     · obtain ⟨ob3, h3, _⟩ := hmap j ob1 e h1
       obtain ⟨ob4, h4, _⟩ := hmap j' ob2 e' h2
       simp only [if_neg e] at hb
       simp only [if_neg e'] at hb'
       exact h.iJ j j' ob3 ob4 b h3 h4 hb hb'
 · intro j ob b hj hb
   by_cases e : j = k
   · subst e
     simp only [if_true] at hb
     exact ⟨(hl b hb).1, (hl b hb).2.1⟩
   · obtain ⟨ob3, h3, _⟩ := hmap j ob e hj
     simp only [if_neg e] at hb
     exact ⟨(h.iF j ob3 b h3 hb).1, Nat.lt_of_lt_of_le (h.iF j ob3 b h3 hb).2 hsz⟩
theorem Inv.rewrite (h : Inv gpv w0 A0 σ a w loc) (k : Nat) {ob : Ob} (hk : σ.o k = some ob) {w' : World} (hB : Fr w0 w') (hsz : w.heap.size ≤ w'.heap.size)
   (hs : ∀ b, b < w.heap.size → blk (loc k) ≠ some b → w'.heap[b]? = w.heap[b]?) (ob' : Ob)
   (ho : ∀ A', (∀ b, b < w.heap.size → A' b → (A0 b ∨ act σ loc b)) → ObAt w' A' loc 0 (loc k) ob') : Inv gpv w0 A0 (σ.setO k ob') a w' loc := by
 have hact : ∀ b, act (σ.setO k ob') loc b → act σ loc b := by
   rintro b ⟨j, ob1, hj, hb⟩
   by_cases e : j = k
   · subst e; exact ⟨j, ob, hk, hb⟩
   · simp only [St.setO, if_neg e] at hj; exact ⟨j, ob1, hj, hb⟩
 have hact' : ∀ b, b < w.heap.size → (A0 b ∨ act (σ.setO k ob') loc b) → (A0 b ∨ act σ loc b) := fun b _ => Or.imp_right (hact b)
 have hs' : ∀ b, b < w.heap.size → ¬ (A0 b ∨ act σ loc b) → w'.heap[b]? = w.heap[b]? := fun b hlt hn => hs b hlt (fun h2 => hn (.inr ⟨k, ob, hk, h2⟩))
 have hget : ∀ j ob1, (σ.setO k ob').o j = some ob1 → ∃ ob2, σ.o j = some ob2 := by
   intro j ob1 hj
   by_cases e : j = k
   · exact ⟨ob, e ▸ hk⟩
   · simp only [St.setO, if_neg e] at hj; exact ⟨ob1, hj⟩
 refine { iB := hB, iA := fun b h9 => Nat.lt_of_lt_of_le (h.iA b h9) hsz, iD := h.iD, iS := fun t => (h.iS t).step hs' hact' (fun _ _ => rfl), iO := ?_, iJ := ?_, iF := ?_, iG := fun g => (h.iG g).step hs' hact' }
 · intro j ob1 hj
   by_cases e : j = k
   · subst e
     simp only [St.setO, if_true, Option.some.injEq] at hj
     subst hj
     exact ho _ hact'
   · simp only [St.setO, if_neg e] at hj
     exact (h.iO j ob1 hj).step hs' hact' (fun _ _ => rfl) (fun b hb => hs b (h.iF j ob1 b hj hb).2 (fun h3 => e (h.iJ j k ob1 ob b hj hk hb h3)))
 · intro j j' ob1 ob2 b h1 h2 hb hb'
   obtain ⟨_, h3⟩ := hget j ob1 h1
   obtain ⟨_, h4⟩ := hget j' ob2 h2
   exact h.iJ j j' _ _ b h3 h4 hb hb'
 · intro j ob1 b hj hb
   obtain ⟨_, h3⟩ := hget j ob1 hj
   exact ⟨(h.iF j _ b h3 hb).1, Nat.lt_of_lt_of_le (h.iF j _ b h3 hb).2 hsz⟩
end
end Go.Pw
