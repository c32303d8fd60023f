/- Merged from the working texts PxA PwW. -/
import Derived.Test.YtkflegdaeienlaaGreatDoorKc17
import Derived.Test.YtkflegdaeienlaaGreatDoorKc16
set_option linter.all false
set_option maxHeartbeats 400000
set_option linter.unusedVariables false
set_option linter.unusedSimpArgs false
namespace Go.Pw
open Go.RowKit
def SV.re (f : Nat → Option Nat) : SV → SV
 | .sh d => .sh d
 | .bp k off => match f k with | some j => .bp j off | none => .sh .any
 | .rp k sz i j => match f k with | some q => .rp q sz i j | none => .sh .any
 | .row k => match f k with | some j => .row j | none => .sh .any
 | .sub k sz i n => match f k with | some j => .sub j sz i n | none => .sh .any
 | .mr k => match f k with | some j => .mr j | none => .sh .any
 | .mg pre k => match f k with | some j => .mg pre j | none => .sh .any
def Ob.re (f : Nat → Option Nat) : Ob → Ob
 | .box cs => .box (cs.map (SV.re f))
 | .rw e sz rows => .rw e sz (rows.map fun r => r.map (SV.re f))
 | .mp ds => .mp ds
 | .it c r => .it c r
section
variable {w : World} {A : Nat → Prop} {loc loc' : Nat → Value} {f : Nat → Option Nat}
theorem RS.re {v : Value} {x : SV} (hl : ∀ k j, f k = some j → loc' j = loc k) (h : RS w A loc v x) : RS w A loc' v (x.re f) := by
 cases h with
 | sh h => exact .sh h
 | bp h =>
   simp only [SV.re]
   split
   · rename_i e; exact .bp ((hl _ _ e).trans h)
   · exact .sh (.any _)
 | rp h =>
   simp only [SV.re]
   split
   · rename_i e; exact .rp ((hl _ _ e).trans h)
   · exact .sh (.any _)
 | row h =>
   simp only [SV.re]
   split
   · rename_i e; exact .row ((hl _ _ e).trans h)
   · exact .sh (.any _)
 | sub h hn =>
   simp only [SV.re]
   split
   · rename_i e; exact .sub ((hl _ _ e).trans h) hn
   · exact .sh (.any _)
 | mr h =>
   simp only [SV.re]
   split
   · rename_i e; exact .mr ((hl _ _ e).trans h)
   · exact .sh (.any _)
 | mg h hn h2 h1 hr =>
   simp only [SV.re]
   split
   · rename_i e; exact .mg ((hl _ _ e).trans h) hn h2 h1 hr
   · exact .sh (.any _)
theorem ObAt.re {B : Nat} {v : Value} {ob : Ob} (hl : ∀ k j, f k = some j → loc' j = loc k) (h : ObAt w A loc B v ob) : ObAt w A loc' B v (ob.re f) := by
 cases h with
 | box hg hn h1 hr =>
   refine .box hg (by simpa using hn) h1 (fun j x hx => ?_)
   simp only [List.getElem?_map, Option.map_eq_some_iff] at hx
   obtain ⟨y, hy, rfl⟩ := hx
   exact (hr j y hy).re hl
 | rw xs hz hown hsz hm h1 hr =>
   refine .rw xs (fun r hr' => ?_) (by simpa using hown) hsz (by simpa using hm) h1 (fun i j r x hi hx => ?_)
   · obtain ⟨q, hq, rfl⟩ := List.mem_map.1 hr'
     simpa using hz q hq
   · simp only [List.getElem?_map, Option.map_eq_some_iff] at hi
     obtain ⟨q, hq, rfl⟩ := hi
     simp only [List.getElem?_map, Option.map_eq_some_iff] at hx
     obtain ⟨y, hy, rfl⟩ := hx
     exact (hr i j q y hq hy).re hl
 | mp es' hg hp hn hd hb hc hk hr => exact .mp es' hg hp hn hd hb hc hk hr
 | it rem' hg hAm hm hbn hc hp hn hk hr hcur => exact .it rem' hg hAm hm hbn hc hp hn hk hr hcur
end
def upK (k : Nat) : Option Nat := some (k + 1000000)
def St.enter (σ : St) (xs : List SV) : St :=
 { s := fun i => match xs[i]? with | some x => x.re upK | none => .sh .any, o := fun k => if 1000000 ≤ k then (σ.o (k - 1000000)).map (Ob.re upK) else none }
def base1 (σ : St) (w : World) (loc : Nat → Value) : Base := ⟨w, fun b => b < w.heap.size ∧ ¬ act σ loc b, fun _ h => h.1⟩
section
variable {gpv : Nat → PV} {w0 : Base} {A0 : Nat → Prop} {σ τ υ : St} {a a' : Act} {w w' : World} {loc loc' : Nat → Value}
theorem Inv.enter (h : Inv gpv w0 A0 σ a w loc) (tm : Array Value) (xs : List SV) (hx : ∀ i x, xs[i]? = some x → RS w (fun b => A0 b ∨ act σ loc b) loc (tm.getD i undef) x) :
   Inv gpv (base1 σ w loc) A0 (σ.enter xs) { tmps := tm, defers := [] } w (fun k => loc (k - 1000000)) := by
 have hu : ∀ k j, upK k = some j → (fun k => loc (k - 1000000)) j = loc k := by
   intro k j e
   simp only [upK, Option.some.injEq] at e
   subst e
   simp
 have hob : ∀ k ob, (σ.enter xs).o k = some ob → ∃ ob1, σ.o (k - 1000000) = some ob1 ∧ ob = ob1.re upK ∧ 1000000 ≤ k := by
   intro k ob hk
   simp only [St.enter] at hk
   split at hk
   · rename_i hle
     obtain ⟨ob1, h1, h2⟩ := Option.map_eq_some_iff.1 hk
     exact ⟨ob1, h1, h2.symm, hle⟩
   · cases hk
 have hact : ∀ b, act (σ.enter xs) (fun k => loc (k - 1000000)) b → act σ loc b := by
   rintro b ⟨k, ob, hk, hb⟩
   obtain ⟨ob1, h1, _, _⟩ := hob k ob hk
   exact ⟨_, ob1, h1, hb⟩
 refine { iB := ⟨rfl, rfl, rfl, Nat.le_refl _, fun _ _ => rfl⟩, iA := h.iA, iD := rfl, iS := fun t => ?_, iO := fun k ob hk => ?_, iJ := fun k k' ob ob' b hk hk' hb hb' => ?_, iF := fun k ob b hk hb => ?_, iG := fun g => (h.iG g).step (fun _ _ _ => rfl) (fun b _ => Or.imp_right (hact b)) }
 · simp only [St.enter]
   split
   · rename_i x hxi
     exact ((hx t x hxi).step (fun _ _ _ => rfl) (fun b _ => Or.imp_right (hact b)) (fun _ _ => rfl)).re hu
   · exact .sh (.any _)
 · obtain ⟨ob1, h1, rfl, _⟩ := hob k ob hk
   exact ((h.iO _ ob1 h1).step (fun _ _ _ => rfl) (fun b _ => Or.imp_right (hact b)) (fun _ _ => rfl) (fun _ _ => rfl)).re hu
 · obtain ⟨ob1, h1, _, h3⟩ := hob k ob hk
   obtain ⟨ob2, h2, _, h4⟩ := hob k' ob' hk'
   have := h.iJ _ _ ob1 ob2 b h1 h2 hb hb'
   omega
 · obtain ⟨ob1, h1, _, _⟩ := hob k ob hk
   have h5 := h.iF _ ob1 b h1 hb
   exact ⟨⟨fun hX => hX.2 ⟨_, ob1, h1, hb⟩, h5.1.2⟩, h5.2⟩
theorem Inv.leave (h : Inv gpv w0 A0 σ a w loc) (h' : Inv gpv (base1 σ w loc) A0 τ a' w' loc') (g : Nat → Nat) (f : Nat → Option Nat) (hfg : ∀ j k, f j = some k → g k = j) (hgi : ∀ k k', g k = g k' → k = k')
   (hs : ∀ i v, RS w (fun b => A0 b ∨ act σ loc b) loc v (σ.s i) → RS w (fun b => A0 b ∨ act σ loc b) loc v (υ.s i)) (ho : ∀ k, υ.o k = (τ.o (g k)).map (Ob.re f)) (hl : ∀ i k, (υ.s i).ment k = true → loc' (g k) = loc k) :
   Inv gpv w0 A0 υ a w' (fun k => loc' (g k)) ∧ ∀ v x, RS w' (fun b => A0 b ∨ act τ loc' b) loc' v x → RS w' (fun b => A0 b ∨ act υ (fun k => loc' (g k)) b) (fun k => loc' (g k)) v (x.re f) := by
 have hob : ∀ k ob, υ.o k = some ob → ∃ ob1, τ.o (g k) = some ob1 ∧ ob = ob1.re f := by
   intro k ob hk
   rw [ho] at hk
   obtain ⟨ob1, h1, h2⟩ := Option.map_eq_some_iff.1 hk
   exact ⟨ob1, h1, h2.symm⟩
 have hact : ∀ b, act υ (fun k => loc' (g k)) b → act τ loc' b := by
   rintro b ⟨k, ob, hk, hb⟩
   obtain ⟨ob1, h1, _⟩ := hob k ob hk
   exact ⟨_, ob1, h1, hb⟩
 have hin : ∀ b, b < w.heap.size → act τ loc' b → act σ loc b := by
   rintro b hlt ⟨k, ob, hk, hb⟩
   have := (h'.iF k ob b hk hb).1.1
   exact Classical.byContradiction fun hn => this ⟨hlt, hn⟩
 have hsub : ∀ b, b < w.heap.size → (A0 b ∨ act υ (fun k => loc' (g k)) b) → (A0 b ∨ act σ loc b) := fun b hlt => Or.imp_right fun hb => hin b hlt (hact b hb)
 have hsame : ∀ b, b < w.heap.size → ¬ (A0 b ∨ act σ loc b) → w'.heap[b]? = w.heap[b]? := fun b hlt hn => h'.iB.block b ⟨hlt, fun hc => hn (.inr hc)⟩
 have hf : ∀ j k, f j = some k → (fun k => loc' (g k)) k = loc' j := fun j k e => by simp only [hfg j k e]
 refine ⟨{ iB := ?_, iA := fun b hb => Nat.lt_of_lt_of_le (h.iA b hb) h'.iB.size, iD := h.iD, iS := fun t => ?_, iO := fun k ob hk => ?_, iJ := fun k k' ob ob' b hk hk' hb hb' => ?_, iF := fun k ob b hk hb => ?_, iG := fun g' => (h.iG g').step hsame hsub }, fun v x hx => ?_⟩
 · exact h.iB.next h'.iB.os h'.iB.tape h'.iB.output h'.iB.size (fun b hlt hX => h'.iB.block b ⟨hlt, fun ⟨k, ob, hk, hb⟩ => (h.iF k ob b hk hb).1.1 hX⟩)
 · exact (hs t _ (h.iS t)).step hsame hsub (fun k hk => hl t k hk)
 · obtain ⟨ob1, h1, rfl⟩ := hob k ob hk
   exact ((h'.iO _ ob1 h1).step (fun _ _ _ => rfl) (fun b _ => Or.imp_right (hact b)) (fun _ _ => rfl) (fun _ _ => rfl)).re hf
 · obtain ⟨ob1, h1, _⟩ := hob k ob hk
   obtain ⟨ob2, h2, _⟩ := hob k' ob' hk'
   exact hgi _ _ (h'.iJ _ _ ob1 ob2 b h1 h2 hb hb')
 · obtain ⟨ob1, h1, _⟩ := hob k ob hk
   have h5 := h'.iF _ ob1 b h1 hb
   refine ⟨⟨fun hX => ?_, h5.1.2⟩, h5.2⟩
   have hlt : b < w.heap.size := Nat.lt_of_lt_of_le (w0.hX b hX) h.iB.size
   obtain ⟨k2, ob2, h6, h7⟩ := hin b hlt ⟨_, ob1, h1, hb⟩
   exact (h.iF k2 ob2 b h6 h7).1.1 hX
 · exact (hx.step (fun _ _ _ => rfl) (fun b _ => Or.imp_right (hact b)) (fun _ _ => rfl)).re hf
end
def dnK (k : Nat) : Option Nat := if 1000000 ≤ k then some (k - 1000000) else none
def St.back (σ τ : St) : St := { s := σ.s, o := fun k => (τ.o (k + 1000000)).map (Ob.re dnK) }
def fK (j d k : Nat) : Option Nat := if k = j then some d else if k = d + 1000000 then none else if 1000000 ≤ k then some (k - 1000000) else none
def St.backF (σ τ : St) (j d : Nat) : St := { s := fun i => (σ.s i).kill d, o := fun k => (τ.o (if k = d then j else k + 1000000)).map (Ob.re (fK j d)) }
def SV.key : SV → Option Nat
 | .sh _ => none
 | .bp k _ | .rp k _ _ _ | .row k | .sub k _ _ _ | .mr k | .mg _ k => some k
def resS (E : Env) : List ResultVar → St → (List PV → St → Prop) → Prop
 | [], σ, K => K [] σ
 | .tmp t :: rest, σ, K => withSh false σ (σ.s t) fun d τ => resS E rest τ fun ds υ => K (d :: ds) υ
 | .cell t T :: rest, σ, K => loadSh E T (.tmp t) σ fun x τ => withSh false τ x fun d υ => resS E rest υ fun ds φ => K (d :: ds) φ
theorem loadSh_sub {E : Env} {w0 : Base} {A0 : Nat → Prop} {σ : St} {a : Act} {w : World} {loc : Nat → Value} (h : Inv E.gpv w0 A0 σ a w loc) {T : Nat} {x : Operand} {K : SV → St → Prop} (hp : loadSh E T x σ K) : ∃ τ, Inv E.gpv w0 A0 τ a w loc ∧ (ppop E (.load T x) τ fun y => K y τ) ∧ ∀ b, act τ loc b → act σ loc b := by
 have cells : ∀ (l : List SV) (σ : St) (F : St → Prop), Inv E.gpv w0 A0 σ a w loc → shareCells l σ F → ∃ τ, Inv E.gpv w0 A0 τ a w loc ∧ F τ ∧ ∀ b, act τ loc b → act σ loc b := by
   intro l
   induction l with
   | nil => intro σ F h hp; exact ⟨σ, h, hp, fun _ hb => hb⟩
   | cons y l ih =>
     intro σ F h hp
     cases y with
     | row k =>
       simp only [shareCells] at hp
       split at hp
       · rename_i e sz rows hk
         obtain ⟨ha, hp⟩ := hp
         obtain ⟨τ, h1, h2, h3⟩ := ih _ F (h.share hk ha).1 hp
         refine ⟨τ, h1, h2, fun b hb => ?_⟩
         obtain ⟨j, ob, hj, hb'⟩ := h3 b hb
         simp only [St.share] at hj
         split at hj
         · cases hj
         · obtain ⟨ob1, h4, _⟩ := Option.map_eq_some_iff.1 hj
           exact ⟨j, ob1, h4, hb'⟩
       · exact hp.elim
     | _ => exact ih σ F h hp
 unfold loadSh at hp
 split at hp
 · split at hp
   · obtain ⟨τ, h1, h2, h3⟩ := cells _ _ _ h hp
     exact ⟨τ, h1, h2, h3⟩
   · exact ⟨σ, h, hp, fun _ hb => hb⟩
 · exact ⟨σ, h, hp, fun _ hb => hb⟩
theorem resS_sound {E : Env} {w0 : Base} {A0 : Nat → Prop} : ∀ (rs : List ResultVar) (σ : St) (a : Act) (w : World) (loc : Nat → Value) (K : List PV → St → Prop), Inv E.gpv w0 A0 σ a w loc → resS E rs σ K →
   ∃ vs ds υ, (rs.mapM (fun (r : ResultVar) => match r with | .tmp t => (pure (a.tmps.getD t undef) : Sem Value) | .cell t T => do loadVar T (← asAddr (a.tmps.getD t undef)))).run E.P w = .ok vs w ∧ K ds υ ∧ vs.length = ds.length ∧ Inv E.gpv w0 A0 υ a w loc ∧ (∀ b, act υ loc b → act σ loc b) ∧
     ∀ (j : Nat) (d : PV) (v : Value), ds[j]? = some d → vs[j]? = some v → R w (fun b => A0 b ∨ act υ loc b) v d
 | [], σ, a, w, loc, K, h, hp => ⟨[], [], σ, by simp, hp, rfl, h, fun _ hb => hb, fun j d v hj => by simp at hj⟩
 | r :: rs, σ, a, w, loc, K, h, hp => by
   have fin : ∀ (υ : St) (v : Value) (d : PV), (match r with | .tmp t => (pure (a.tmps.getD t undef) : Sem Value) | .cell t T => do loadVar T (← asAddr (a.tmps.getD t undef))).run E.P w = .ok v w → Inv E.gpv w0 A0 υ a w loc → R w (fun b => A0 b ∨ act υ loc b) v d → (∀ b, act υ loc b → act σ loc b) → (resS E rs υ fun ds φ => K (d :: ds) φ) →
       ∃ vs ds υ, ((r :: rs).mapM (fun (r : ResultVar) => match r with | .tmp t => (pure (a.tmps.getD t undef) : Sem Value) | .cell t T => do loadVar T (← asAddr (a.tmps.getD t undef)))).run E.P w = .ok vs w ∧ K ds υ ∧ vs.length = ds.length ∧ Inv E.gpv w0 A0 υ a w loc ∧ (∀ b, act υ loc b → act σ loc b) ∧
         ∀ (j : Nat) (d : PV) (v : Value), ds[j]? = some d → vs[j]? = some v → R w (fun b => A0 b ∨ act υ loc b) v d := by
     intro υ v d hr hi hv hsub hk
     obtain ⟨vs, ds, φ, h1, h2, h3, h5, h6, h4⟩ := resS_sound rs υ a w loc _ hi hk
     refine ⟨v :: vs, d :: ds, φ, ?_, h2, by simp [h3], h5, fun b hb => hsub b (h6 b hb), fun j d' v' hj hj' => ?_⟩
     · simp only [List.mapM_cons, Sem.run_bind, hr, Result.andThen_ok, h1, Sem.run_pure]
     · cases j with
       | zero =>
         simp at hj hj'; subst hj; subst hj'
         exact hv.step (fun _ _ _ => rfl) (fun b _ => Or.imp_right (h6 b))
       | succ j => exact h4 j d' v' (by simpa using hj) (by simpa using hj')
   cases r with
   | tmp t =>
     simp only [resS] at hp
     have e : σ.s t = σ.ev E (.tmp t) := rfl
     rw [e] at hp
     obtain ⟨d, υ, h1, h2, h3, h4, _⟩ := withSh_sound h hp
     exact fin υ _ d rfl h2 h3 h4 h1
   | cell t T =>
     simp only [resS] at hp
     obtain ⟨τ, h1, h2, hsub⟩ := loadSh_sub h hp
     obtain ⟨p, v, y, hv, hr, hx, hK⟩ := load_core (x := .tmp t) h1 h2
     have hrun : (match (ResultVar.cell t T) with | .tmp t => (pure (a.tmps.getD t undef) : Sem Value) | .cell t T => do loadVar T (← asAddr (a.tmps.getD t undef))).run E.P w = .ok v w := by
       simp only [Act.eval] at hv; simp only [hv, asAddr, Sem.run_bind, Sem.run_pure, Result.andThen_ok, hr]
     cases y with
     | sh d =>
       have hs : withSh false τ (.sh d) (fun d υ => resS E rs υ fun ds φ => K (d :: ds) φ) := hK
       unfold withSh at hs
       split at hs
       · rename_i e
         injection e with e
         have hvv := hx.sh_inv
         rw [e] at hvv
         cases hvv
         exact fin τ _ _ hrun h1 (.nilsl none 0 (fun _ => rfl)) hsub hs
       · rename_i e
         injection e with e
         have hvv := hx.sh_inv
         rw [e] at hvv
         obtain ⟨p0, hv0⟩ := hvv.e0_inv
         rw [hv0] at hrun
         exact fin τ _ _ hrun h1 (.nilsl p0 0 (fun _ => rfl)) hsub hs
       · rename_i d' _ _ e
         injection e with e
         subst e
         exact fin τ v _ hrun h1 hx.sh_inv.nz hsub hs
       · rename_i e; cases e
       · rename_i e; cases e
       · exact hs.elim
     | mr k => exact hK.elim
     | mg pre k =>
       have hs : withSh false τ (.mg pre k) (fun d υ => resS E rs υ fun ds φ => K (d :: ds) φ) := hK
       simp only [withSh] at hs
       split at hs
       · rename_i ds hk
         obtain ⟨_, hK'⟩ := hs
         obtain ⟨h3, h4⟩ := h1.shareM hk
         obtain ⟨b, cs, hl, hv1, hn, hlast, h5, h6⟩ := hx.mg_eq
         have hact : ∀ b, act (τ.shareM k ds) loc b → act τ loc b := by
           rintro b ⟨j, ob', hj, hb⟩
           obtain ⟨_, ob, h3, _⟩ := shareM_sub hj
           exact ⟨j, ob, h3, hb⟩
         refine fin _ v _ hrun h3 ?_ (fun b hb => hsub b (hact b hb)) hK'
         rw [hv1]
         refine .agg (by simp [hn]) h5 (fun j d hj => ?_)
         rcases Nat.lt_or_ge j pre.length with hlt | hge
         · rw [List.getElem?_append_left hlt] at hj
           exact (h6 j d hj).step (fun _ _ _ => rfl) (fun b _ => Or.imp_right (hact b))
         · rw [List.getElem?_append_right hge] at hj
           have hj0 : j = pre.length := by
             have := (List.getElem?_eq_some_iff.1 hj).1
             simp at this; omega
           subst hj0
           simp at hj
           subst hj
           rw [hlast, ← hl]; exact h4
       · exact hs.elim
     | row k =>
       have hs : withSh false τ (.row k) (fun d υ => resS E rs υ fun ds φ => K (d :: ds) φ) := hK
       simp only [withSh] at hs
       split at hs
       · rename_i e sz rows hk
         obtain ⟨_, hsh, hK'⟩ := hs
         obtain ⟨h3, h4⟩ := h1.share hk hsh
         obtain ⟨p1, n1, c1, hl, hv1⟩ := hx.row_eq
         have hact : ∀ b, act (τ.share k (unSR rows)) loc b → act τ loc b := by
           rintro b ⟨j, ob, hj, hb'⟩
           simp only [St.share] at hj
           split at hj
           · cases hj
           · obtain ⟨ob1, h4, _⟩ := Option.map_eq_some_iff.1 hj
             exact ⟨j, ob1, h4, hb'⟩
         exact fin _ v _ hrun h3 (by rw [hv1, ← hl]; exact h4) (fun b hb => hsub b (hact b hb)) hK'
       · exact hs.elim
     | bp k off => exact hK.elim
     | rp k sz i j => exact hK.elim
     | sub k sz i n => exact hK.elim
def finI (σ : St) (dst : Option Nat) (K : SV → St → Prop) (τ : St) (x : SV) : Prop := match x.key with
 | some j => if j < 1000000 then ∃ d, dst = some d ∧ K (x.re (fK j d)) (σ.backF τ j d) else K (x.re dnK) (σ.back τ)
 | none => K x (σ.back τ)
def rqI (E : Env) (σ : St) (dst : Option Nat) (rs : List ResultVar) (K : SV → St → Prop) : Exit → St → Prop := fun e τ => match e with
 | .normal | .ret => match rs with
   | [.tmp t] => finI σ dst K τ (τ.s t)
   | [.cell t T] => ppop E (.load T (.tmp t)) τ fun x => finI σ dst K τ x
   | rs => resS E rs τ fun ds υ => K (.sh (one? ds)) (σ.back υ)
 | _ => False
section
variable {gpv : Nat → PV} {w0 : Base} {A0 : Nat → Prop} {σ τ : St} {a a' : Act} {w w' : World} {loc loc' : Nat → Value}
theorem Inv.back (h : Inv gpv w0 A0 σ a w loc) (h' : Inv gpv (base1 σ w loc) A0 τ a' w' loc') (ht : ∀ k, loc' (k + 1000000) = loc k) :
   Inv gpv w0 A0 (σ.back τ) a w' loc ∧ ∀ v x, RS w' (fun b => A0 b ∨ act τ loc' b) loc' v x → RS w' (fun b => A0 b ∨ act (σ.back τ) loc b) loc v (x.re dnK) := by
 have := Inv.leave (υ := σ.back τ) h h' (fun k => k + 1000000) dnK (fun j k e => by unfold dnK at e; split at e <;> simp at e; omega) (fun k k' e => by simpa using e) (fun i v hv => hv) (fun k => rfl) (fun i k _ => ht k)
 rwa [show (fun k => loc' (k + 1000000)) = loc from funext ht] at this
theorem Inv.backF (h : Inv gpv w0 A0 σ a w loc) (h' : Inv gpv (base1 σ w loc) A0 τ a' w' loc') (ht : ∀ k, loc' (k + 1000000) = loc k) {j d : Nat} (hj : j < 1000000) :
   Inv gpv w0 A0 (σ.backF τ j d) a w' (fun k => if k = d then loc' j else loc k) ∧ ∀ v x, RS w' (fun b => A0 b ∨ act τ loc' b) loc' v x → RS w' (fun b => A0 b ∨ act (σ.backF τ j d) (fun k => if k = d then loc' j else loc k) b) (fun k => if k = d then loc' j else loc k) v (x.re (fK j d)) := by
 have := Inv.leave (υ := σ.backF τ j d) h h' (fun k => if k = d then j else k + 1000000) (fK j d) (fun i k e => by
     unfold fK at e
     split at e
     · simp only [Option.some.injEq] at e; subst e; simp; omega
     · split at e
       · cases e
       · split at e
         · simp only [Option.some.injEq] at e
           rw [if_neg (by omega)]; omega
         · cases e) (fun k k' e => by
     split at e <;> split at e <;> omega) (fun i v hv => hv.kill d) (fun k => rfl) (fun i k hk => by
       have := SV.kill_ment hk
       rw [if_neg this]; exact ht k)
 have e : (fun k => loc' (if k = d then j else k + 1000000)) = fun k => if k = d then loc' j else loc k := by
   funext k
   by_cases hk : k = d
   · simp [hk]
   · simp [hk, ht]
 rwa [e] at this
end
theorem inl_call {E : Env} (hmix : E.P.follows .mixedOrders = true) {o : Oper} {σ : St} {K : SV → St → Prop} {c : Call} {f : Operand} {g : Nat} {caps : List PV} {fn : Func} {body : Code} (ho : o.op = .call c) (hc : c.callee = .value f) (hf : σ.ev E f = .sh (.fn g caps))
    (hfn : E.P.funcs[g]? = some fn) (hname : (fn.name == "runtime.NumGoroutine") = false) (hb : fn.body = some body) (hok : codeOk fn.ntmps body = true) (hargs : c.args.size + caps.length ≤ fn.ntmps ∧ fn.ntmps ≤ 1000000)
    (hp : pwp E body (rqI E σ o.dst fn.results.toList K) (σ.enter (c.args.toList.map (σ.ev E) ++ caps.map .sh))) : SemOp E o σ K := by
  intro w0 A0 a w loc Q h hd next hn
  have hfv := ev_ok h f
  rw [hf] at hfv
  obtain ⟨cs, hcv, hcn, hcr⟩ := hfv.sh_inv.fn_inv
  have hname' : fn.name ≠ "runtime.NumGoroutine" := by simpa using hname
  have hrun : (execOp a.eval o).run E.P w = .ok (.enter g (#[] ++ c.args.map a.eval ++ cs)) w := by
    simp only [execOp, ho, resolve, hc, hcv, Deferred.ofValue, Sem.run_bind, Sem.run_pure, Result.andThen_ok, invoke]
    simp [callFunc, hfn, hname', hb]
  unfold Oper.wp
  rw [hrun]
  have hx : ∀ i x, (c.args.toList.map (σ.ev E) ++ caps.map .sh)[i]? = some x → RS w (fun b => A0 b ∨ act σ loc b) loc ((#[] ++ c.args.map a.eval ++ cs ++ Array.replicate (fn.ntmps - (#[] ++ c.args.map a.eval ++ cs).size) undef).getD i undef) x := by
    intro i x hi
    by_cases hlt : i < c.args.size
    · rw [List.getElem?_append_left (by simpa using hlt), List.getElem?_map] at hi
      obtain ⟨y, hy, rfl⟩ := Option.map_eq_some_iff.1 hi
      have hy' : c.args[i] = y := by
        have := (List.getElem?_eq_some_iff.1 hy).2
        simpa using this
      have := ev_ok h y
      rw [← hy'] at this ⊢
      simpa [Array.getD_eq_getD_getElem?, Array.getElem?_append, hlt, Nat.lt_add_right _ hlt] using this
    · rw [List.getElem?_append_right (by simpa using hlt), List.getElem?_map] at hi
      obtain ⟨d, hd', rfl⟩ := Option.map_eq_some_iff.1 hi
      simp only [List.length_map, Array.length_toList] at hd'
      have hl2 := (List.getElem?_eq_some_iff.1 hd').1
      have := hcr _ d hd'
      refine .sh ?_
      have e : (#[] ++ c.args.map a.eval ++ cs ++ Array.replicate (fn.ntmps - (#[] ++ c.args.map a.eval ++ cs).size) undef).getD i undef = cs.getD (i - c.args.size) undef := by
        simp only [Array.getD_eq_getD_getElem?, Array.getElem?_append]
        rw [if_pos (by simp; omega), if_neg (by simp; omega)]
        simp
      rw [e]; exact this
  have hsz : (#[] ++ c.args.map a.eval ++ cs ++ Array.replicate (fn.ntmps - (#[] ++ c.args.map a.eval ++ cs).size) undef).size = fn.ntmps := by simp; omega
  refine Calls.mono (calls_of_wp hfn hb (R := fun e w' => ∃ v, e = .returned v ∧ next (a.put o.dst v) w') ?_) (by rintro e w' ⟨v, rfl, hv⟩; exact hv)
  refine pwp_sound hmix body _ _ _ _ w _ hok hsz (h.enter _ _ hx) hp (fun e τ a' w' loc' hq0 h3 h4 htr => ?_)
  have ht : ∀ k, loc' (k + 1000000) = loc k := fun k => by
    have := htr hargs.2 (k + 1000000) (by omega)
    simpa using this
  have one : ∀ (x : SV) (v : Value), (results fn a'.tmps).run E.P w' = .ok v w' → RS w' (fun b => A0 b ∨ act τ loc' b) loc' v x → finI σ o.dst K τ x → a'.defers = [] ∧ ∃ v, (results fn a'.tmps).run E.P w' = .ok v w' ∧ ∃ u, Ending.returned v = .returned u ∧ next (a.put o.dst u) w' := by
    intro x v hr hR hq
    refine ⟨h3.iD, _, hr, _, rfl, ?_⟩
    unfold finI at hq
    split at hq
    · rename_i j hkey
      split at hq
      · rename_i hj
        obtain ⟨d, hdst, hK⟩ := hq
        obtain ⟨h5, h6⟩ := h.backF h3 ht hj (d := d)
        exact hn _ _ _ w' _ hK (h5.put hd (h6 _ _ hR)) (put_size _ _ _) (Trk.dst hd hdst _ _)
      · obtain ⟨h5, h6⟩ := h.back h3 ht
        exact hn _ _ _ w' _ hq (h5.put hd (h6 _ _ hR)) (put_size _ _ _) (Trk.refl _ _)
    · rename_i hkey
      obtain ⟨h5, h6⟩ := h.back h3 ht
      have e : x = x.re dnK := by
        cases x with
        | sh d => rfl
        | _ => cases hkey
      rw [e] at hq
      exact hn _ _ _ w' _ hq (h5.put hd (h6 _ _ hR)) (put_size _ _ _) (Trk.refl _ _)
  have fin : rqI E σ o.dst fn.results.toList K .normal τ → a'.defers = [] ∧ ∃ v, (results fn a'.tmps).run E.P w' = .ok v w' ∧ ∃ u, Ending.returned v = .returned u ∧ next (a.put o.dst u) w' := by
    intro hq
    simp only [rqI] at hq
    split at hq
    · rename_i t hrs
      have hr : (results fn a'.tmps).run E.P w' = .ok (a'.tmps.getD t undef) w' := by
        rw [results_tmps (ts := [t]) (by simpa using hrs)]
        simp
      exact one _ _ hr (h3.iS t) hq
    · rename_i t T hrs
      obtain ⟨p, v, y, hv, hr, hx, hK⟩ := load_core (x := .tmp t) h3 hq
      refine one y v ?_ hx hK
      have hv' : a'.tmps.getD t undef = .pointer (some p) := hv
      have hm : (fn.results.mapM fun (r : ResultVar) => match r with | .tmp t => (pure (a'.tmps.getD t undef) : Sem Value) | .cell t T => do loadVar T (← asAddr (a'.tmps.getD t undef))).run E.P w' = .ok #[v] w' := by
        rw [Array.mapM_eq_mapM_toList, hrs]
        simp only [List.mapM_cons, List.mapM_nil, Sem.run_map, Sem.run_bind, hv', asAddr, Sem.run_pure, Result.andThen_ok, hr]
      unfold results
      simp only [Sem.run_bind]
      refine Eq.trans (congrArg (fun q => Result.andThen q _) hm) ?_
      simp [Result.andThen_ok, Sem.run_pure]
    · obtain ⟨vs, ds, υ, hm0, hK, h7, h8, _, h9⟩ := resS_sound _ τ a' w' loc' _ h3 hq
      obtain ⟨h5, h6⟩ := h.back h8 ht
      have hm : (fn.results.mapM fun (r : ResultVar) => match r with | .tmp t => (pure (a'.tmps.getD t undef) : Sem Value) | .cell t T => do loadVar T (← asAddr (a'.tmps.getD t undef))).run E.P w' = .ok vs.toArray w' := by
        rw [Array.mapM_eq_mapM_toList]
        simp only [Sem.run_map, hm0, Result.andThen_ok]
      have hres : (results fn a'.tmps).run E.P w' = .ok (if h : vs.toArray.size = 1 then vs.toArray[0] else .tuple vs.toArray) w' := by
        unfold results
        simp only [Sem.run_bind]
        refine Eq.trans (congrArg (fun q => Result.andThen q _) hm) ?_
        simp only [Result.andThen_ok, Sem.run_pure]
      refine ⟨h3.iD, _, hres, _, rfl, ?_⟩
      refine hn _ _ _ w' _ hK (h5.put hd (h6 _ (.sh (one? ds)) (.sh ?_))) (put_size _ _ _) (Trk.refl _ _)
      refine one_R h7.symm (fun j d' hj => ?_)
      have hjl : j < vs.length := by rw [h7]; exact (List.getElem?_eq_some_iff.1 hj).1
      have := h9 j d' _ hj (List.getElem?_eq_getElem hjl)
      rw [List.getD_eq_getElem?_getD, List.getElem?_eq_getElem hjl]
      exact this
  cases e with
  | normal => exact fin hq0
  | ret => exact fin hq0
  | _ => exact hq0.elim
theorem mg_build {E : Env} {o : Oper} {σ : St} {K : SV → St → Prop} {T : Nat} {i : TI} {parts : Array (Nat × Operand)} {x : Operand} {t k : Nat} {kn : IntKind} {n : Int} (ho : o.op = .build T parts) (hpt : parts.toList = [(0, x), (1, .tmp t)]) (hT : E.tt T = some i) (hk : kOk E i.kind = true)
   (h0 : placeOf E i.kind 0 = some (0, 1)) (h1 : placeOf E i.kind 1 = some (1, 1)) (hz : i.zero.length = 2) (hx : σ.ev E x = .sh (.val (.int kn n))) (ht : σ.s t = .mr k) (hK : K (.mg [.val (.int kn n)] k) σ) : SemOp E o σ K := by
 intro w0 A0 a w loc Q h hd
 have htv := h.iS t
 rw [ht] at htv
 obtain ⟨b, hv, hl⟩ : ∃ b, a.tmps.getD t undef = .map (some b) ∧ loc k = .map (some b) := by
   generalize a.tmps.getD t undef = v at htv
   cases htv with
   | mr h => exact ⟨_, rfl, h⟩
 have hi : Inv E.gpv w0 A0 (σ.put (some t) (.sh (.val (.map (some b))))) a w loc := h.slot (by rw [hv]; exact .sh (.val _))
 have hx2 : (σ.put (some t) (.sh (.val (.map (some b))))).ev E x = .sh (.val (.int kn n)) := by
   cases x with
   | tmp u =>
     have : u ≠ t := by
       rintro rfl
       simp only [St.ev] at hx
       rw [ht] at hx; cases hx
     simpa [St.ev, St.put, this] using hx
   | _ => exact hx
 have ht2 : (σ.put (some t) (.sh (.val (.map (some b))))).ev E (.tmp t) = .sh (.val (.map (some b))) := by simp [St.ev, St.put]
 obtain ⟨z0, z1, hzz⟩ : ∃ z0 z1, i.zero = [z0, z1] := by
   rcases hq : i.zero with _ | ⟨z0, _ | ⟨z1, _ | ⟨z2, zs⟩⟩⟩ <;> rw [hq] at hz <;> simp at hz
   exact ⟨z0, z1, rfl⟩
 have hp : buildP E true (σ.put (some t) (.sh (.val (.map (some b))))) T parts.toList fun d τ => d = .agg [.val (.int kn n), .val (.map (some b))] := by
   unfold buildP
   simp only [hT, hpt, List.map_cons, List.map_nil, withShs, hx2, ht2, withSh, PV.nz]
   refine ⟨hk, ?_⟩
   simp only [List.zip_cons_cons, List.zip_nil_left, buildC, h0, h1, PV.cells, hzz, List.map_cons, List.map_nil]
   refine ⟨rfl, by simp, rfl, ?_⟩
   simp only [spliceP, List.take, List.drop, List.length_cons, List.length_nil, List.nil_append, List.cons_append]
   simp [PV.one, Value.oneCell']
 obtain ⟨v, d, τ, hr, rfl, h2, hR, hsub, hq⟩ := build_sound hi ho hp
 obtain rfl := hq rfl
 refine EGives.run hd (Trk.refl _ _) hr h ?_ hK
 cases hR with
 | @agg cs ds hn h3 h4 =>
   have e1 := (h4 1 _ rfl)
   refine .mg hl (by simpa using hn) ?_ h3 (fun j d hj => ?_)
   · exact (RS.sh (loc := loc) e1).val_eq
   · cases j with
     | zero =>
       have := h4 0 d (by simpa using hj)
       exact this
     | succ j => simp at hj
end Go.Pw
set_option maxRecDepth 100000
set_option linter.unusedVariables false
namespace Go.Pw
open Go Go.Proofs
theorem TT : E.tt 3 = some { size := 1, bytes := 8, zero := [.int .i64 0], kind := .ot } ∧
   E.tt 4 = some { size := 1, bytes := 1, zero := [.bool false], kind := .bo } ∧
   E.tt 5 = some { size := 1, bytes := 1, zero := [.int .u8 0], kind := .ot } ∧
   E.tt 9 = some { size := 1, bytes := 16, zero := [.string ByteArray.empty], kind := .ot } ∧
   E.tt 21 = some { size := 1, bytes := 4, zero := [.int .i32 0], kind := .ot } ∧
   E.tt 22 = some { size := 1, bytes := 24, zero := [.slice none 0 0], kind := .sl 90 } ∧
   E.tt 23 = some { size := 1, bytes := 24, zero := [.slice none 0 0], kind := .sl 3 } ∧
   E.tt 25 = some { size := 3, bytes := 56, zero := [.int .i64 0, .slice none 0 0, .slice none 0 0], kind := .st [(0, 3), (1, 22), (2, 23)] } ∧
   E.tt 26 = some { size := 1, bytes := 24, zero := [.slice none 0 0], kind := .sl 80 } ∧
   E.tt 29 = some { size := 1, bytes := 8, zero := [.int .i64 0], kind := .ot } ∧
   E.tt 33 = some { size := 1, bytes := 24, zero := [.slice none 0 0], kind := .sl 26 } ∧
   E.tt 36 = some { size := 1, bytes := 24, zero := [.slice none 0 0], kind := .sl 48 } ∧
   E.tt 44 = some { size := 1, bytes := 24, zero := [.slice none 0 0], kind := .sl 115 } ∧
   E.tt 46 = some { size := 2, bytes := 32, zero := [.int .i64 0, .slice none 0 0], kind := .st [(0, 3), (1, 44)] } ∧
   E.tt 48 = some { size := 4, bytes := 64, zero := [.int .i64 0, .slice none 0 0, .int .i64 0, .slice none 0 0], kind := .st [(0, 46), (2, 46)] } ∧
   E.tt 51 = some { size := 1, bytes := 8, zero := [.int .u64 0], kind := .ot } ∧
   E.tt 78 = some { size := 1, bytes := 24, zero := [.slice none 0 0], kind := .sl 103 } ∧
   E.tt 80 = some { size := 4, bytes := 64, zero := [.int .i64 0, .bool false, .slice none 0 0, .slice none 0 0], kind := .st [(0, 29), (1, 4), (2, 78), (3, 78)] } ∧
   E.tt 90 = some { size := 7, bytes := 88, zero := [.int .i64 0, .int .i64 0, .int .i64 0, .int .i64 0, .bool false, .slice none 0 0, .slice none 0 0], kind := .st [(0, 3), (1, 3), (2, 3), (3, 80)] } ∧
   E.tt 101 = some { size := 1, bytes := 24, zero := [.slice none 0 0], kind := .sl 36 } ∧
   E.tt 103 = some { size := 1, bytes := 4, zero := [.int .u32 0], kind := .ot } ∧
   E.tt 108 = some { size := 4, bytes := 80, zero := [.int .i64 0, .slice none 0 0, .slice none 0 0, .slice none 0 0], kind := .st [(0, 25), (3, 23)] } ∧
   E.tt 109 = some { size := 1, bytes := 24, zero := [.slice none 0 0], kind := .sl 4 } ∧
   E.tt 113 = some { size := 4, bytes := 64, zero := [.int .i64 0, .slice none 0 0, .int .i64 0, .slice none 0 0], kind := .ar 2 46 } ∧
   E.tt 115 = some { size := 5, bytes := 88, zero := [.slice none 0 0, .int .i64 0, .bool false, .slice none 0 0, .slice none 0 0], kind := .st [(0, 23), (1, 80)] } ∧
   E.tt 132 = some { size := 6, bytes := 112, zero := [.int .i64 0, .slice none 0 0, .slice none 0 0, .int .i64 0, .slice none 0 0, .slice none 0 0], kind := .ar 2 25 } ∧
   E.tt 136 = some { size := 1, bytes := 8, zero := [.int .u64 0], kind := .ot } ∧
   E.tt 140 = some { size := 1, bytes := 8, zero := [.int .i64 0], kind := .st [(0, 29)] } ∧
   E.tt 152 = some { size := 1, bytes := 8, zero := [.int .i64 0], kind := .st [(0, 29)] } ∧
   E.tt 174 = some { size := 1, bytes := 24, zero := [.slice none 0 0], kind := .sl 103 } ∧
   E.tt 176 = some { size := 3, bytes := 56, zero := [.bool false, .slice none 0 0, .slice none 0 0], kind := .st [(0, 4), (1, 174), (2, 174)] } ∧
   E.tt 188 = some { size := 2, bytes := 32, zero := [.bool false, .slice none 0 0], kind := .st [(0, 4), (1, 78)] } ∧
   E.tt 193 = some { size := 3, bytes := 3, zero := [.bool false, .bool false, .bool false], kind := .ar 3 4 } ∧
   E.tt 194 = some { size := 24, bytes := 24, zero := [.bool false, .bool false, .bool false, .bool false, .bool false, .bool false, .bool false, .bool false, .bool false, .bool false, .bool false, .bool false, .bool false, .bool false, .bool false, .bool false, .bool false, .bool false, .bool false, .bool false, .bool false, .bool false, .bool false, .bool false], kind := .ar 8 193 } ∧
   E.tt 196 = some { size := 1, bytes := 8, zero := [.map none], kind := .ot } ∧
   E.tt 198 = some { size := 2, bytes := 16, zero := [.int .i64 0, .map none], kind := .st [(0, 3), (1, 196)] } ∧
   E.tt 238 = some { size := 1, bytes := 24, zero := [.slice none 0 0], kind := .sl 5 } ∧
   E.tt 263 = some { size := 1, bytes := 24, zero := [.slice none 0 0], kind := .sl 29 } ∧
   E.tt 264 = some { size := 1, bytes := 24, zero := [.slice none 0 0], kind := .sl 78 } := ⟨rfl, rfl, rfl, rfl, rfl, rfl, rfl, rfl, rfl, rfl, rfl, rfl, rfl, rfl, rfl, rfl, rfl, rfl, rfl, rfl, rfl, rfl, rfl, rfl, rfl, rfl, rfl, rfl, rfl, rfl, rfl, rfl, rfl, rfl, rfl, rfl, rfl, rfl, rfl⟩
theorem UU : E.P.underlying 3 = some (.int .i64) ∧ E.P.underlying 5 = some (.int .u8) ∧ E.P.underlying 51 = some (.int .u64) ∧ E.P.underlying 103 = some (.int .u32) ∧ E.P.underlying 136 = some (.int .u64) ∧ E.P.underlying 29 = some (.int .i64) ∧ E.P.underlying 196 = some (.map 9 176) ∧ E.P.underlying 9 = some .string := ⟨by kernel_rfl, by kernel_rfl, by kernel_rfl, by kernel_rfl, by kernel_rfl, by kernel_rfl, by kernel_rfl, by kernel_rfl⟩
section
variable (E : Env) (σ : St)
theorem ev_tmp (t : Nat) : St.ev E σ (.tmp t) = σ.s t := rfl
theorem ev_int (k : IntKind) (n : Int) : St.ev E σ (.const (.int k n)) = .sh (.val (.int k n)) := rfl
theorem ev_bool (b : Bool) : St.ev E σ (.const (.bool b)) = .sh (.val (.bool b)) := rfl
theorem ev_nil : St.ev E σ (.const (.slice none 0 0)) = .sh (.val (.slice none 0 0)) := rfl
theorem ev_str (s : ByteArray) : St.ev E σ (.const (.string s)) = .sh (.val (.string s)) := rfl
theorem ev_global (g : Nat) : St.ev E σ (.global g) = .sh (E.gpv g) := rfl
theorem ev_func (g : Nat) : St.ev E σ (.func g) = .sh (.fn g []) := rfl
variable (K : SV → Prop)
variable (K : SV → St → Prop) (d : Option Tmp)
end
theorem w_i64 (n : Int) (h1 : -9223372036854775808 ≤ n) (h2 : n ≤ 9223372036854775807) : IntKind.i64.wrap n = n := wrap_i64 n h1 h2
theorem m_u64 (n : Int) : IntKind.u64.wrap n = n % 18446744073709551616 := IntKind.wrap_u64 n
theorem m_u32 (n : Int) : IntKind.u32.wrap n = n % 4294967296 := IntKind.wrap_u32 n
theorem m_u8 (n : Int) : IntKind.u8.wrap n = n % 256 := IntKind.wrap_u8 n
theorem w_u64 (n : Int) (h1 : 0 ≤ n) (h2 : n < 18446744073709551616) : IntKind.u64.wrap n = n := by rw [m_u64]; omega
theorem w_u32 (n : Int) (h1 : 0 ≤ n) (h2 : n < 4294967296) : IntKind.u32.wrap n = n := by rw [m_u32]; omega
theorem w_u8 (n : Int) (h1 : 0 ≤ n) (h2 : n < 256) : IntKind.u8.wrap n = n := by rw [m_u8]; omega
section
variable (k : IntKind) (a b : Int) (K : Value → Prop)
end
end Go.Pw
