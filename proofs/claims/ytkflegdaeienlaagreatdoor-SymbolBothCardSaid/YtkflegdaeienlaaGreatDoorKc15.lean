/- Merged from the working texts PwM. -/
import Derived.Test.YtkflegdaeienlaaGreatDoorKc14
set_option linter.all false
set_option maxHeartbeats 400000
set_option linter.unusedVariables false
set_option linter.unusedSimpArgs false
namespace Go.Pw
open Go.RowKit
def Weak (E : Env) (σ τ : St) : Prop := ∀ w0 A0 a w loc, Inv E.gpv w0 A0 σ a w loc → ∃ loc', Inv E.gpv w0 A0 τ a w loc' ∧ ∀ j, 1000000 ≤ j → loc' j = loc j
theorem Weak.refl {E : Env} (σ : St) : Weak E σ σ := fun _ _ _ _ loc h => ⟨loc, h, fun _ _ => rfl⟩
theorem Weak.trans {E : Env} {σ τ υ : St} (h : Weak E σ τ) (k : Weak E τ υ) : Weak E σ υ := fun w0 A0 a w loc hi => by
 obtain ⟨loc', h', t1⟩ := h w0 A0 a w loc hi
 obtain ⟨loc2, h2, t2⟩ := k w0 A0 a w loc' h'
 exact ⟨loc2, h2, fun j hj => (t2 j hj).trans (t1 j hj)⟩
theorem Weak.forget {E : Env} {σ τ : St} (hs : ∀ t, τ.s t = σ.s t ∨ τ.s t = .sh .any) (ho : ∀ k, τ.o k = σ.o k ∨ τ.o k = none) : Weak E σ τ := fun w0 A0 a w loc h => by
 have hact : ∀ b, (A0 b ∨ act τ loc b) → (A0 b ∨ act σ loc b) := by
   rintro b (hb | ⟨k, ob, hk, hb⟩)
   · exact .inl hb
   · rcases ho k with e | e
     · exact .inr ⟨k, ob, by rw [← e]; exact hk, hb⟩
     · rw [e] at hk; cases hk
 refine ⟨loc, h.retell τ (fun t v hx => ?_) (fun k ob' hk => ?_) (fun k ob ob' hk hk' hob => ?_), fun _ _ => rfl⟩
 · rcases hs t with e | e
   · rw [e]; exact hx.retell hact
   · rw [e]; exact .sh (.any v)
 · rcases ho k with e | e
   · exact ⟨ob', by rw [← e]; exact hk⟩
   · rw [e] at hk; cases hk
 · rcases ho k with e | e
   · rw [e, hk'] at hk
     injection hk with hk
     subst hk
     exact hob.step (fun _ _ _ => rfl) (fun b _ => hact b) (fun _ _ => rfl) (fun _ _ => rfl)
   · rw [e] at hk; cases hk
theorem Weak.share {E : Env} {σ : St} {k : Nat} {e : TypeId} {sz : Nat} {rows : List (List SV)} (hk : σ.o k = some (.rw e sz rows)) (hsh : allSh rows = true) : Weak E σ (σ.share k (unSR rows)) := fun _ _ _ _ loc h => ⟨loc, (h.share hk hsh).1, fun _ _ => rfl⟩
theorem Weak.freeze {E : Env} {σ : St} {k : Nat} {cs : List SV} (hk : σ.o k = some (.box cs)) (h0 : 0 < cs.length) (hsh : cs.all SV.isSh = true) : Weak E σ (σ.freeze k (cs.map SV.unsh)) := fun _ _ _ _ loc h => ⟨loc, (h.freeze hk h0 hsh).1, fun _ _ => rfl⟩
theorem Inv.slot {gpv : Nat → PV} {w0 : Base} {A0 : Nat → Prop} {σ : St} {a : Act} {w : World} {loc : Nat → Value} (h : Inv gpv w0 A0 σ a w loc) {t : Nat} {x : SV} (hx : RS w (fun b => A0 b ∨ act σ loc b) loc (a.tmps.getD t undef) x) : Inv gpv w0 A0 (σ.put (some t) x) a w loc := by
 refine { iB := h.iB, iA := h.iA, iD := h.iD, iS := fun i => ?_, iO := h.iO, iJ := h.iJ, iF := h.iF, iG := h.iG }
 have hact : act (σ.put (some t) x) loc = act σ loc := rfl
 rw [hact]
 by_cases e : i = t
 · subst e
   have : (σ.put (some i) x).s i = x := by simp [St.put]
   rw [this]; exact hx
 · have : (σ.put (some t) x).s i = σ.s i := by simp [St.put, e]
   rw [this]; exact h.iS i
theorem Weak.adopt {E : Env} {σ : St} (k t : Nat) (e sz : Nat) (hsz : 0 < sz) (hk0 : k < 1000000 := by decide) (ht : σ.s t = .sh (.val (.slice none 0 0))) : Weak E σ ((σ.make k (.rw e sz [])).put (some t) (.row k)) := fun w0 A0 a w loc h => by
 have hv : a.tmps.getD t undef = .slice none 0 0 := by have := h.iS t; rw [ht] at this; exact this.val_eq
 have h1 := h.remake k h.iB (Nat.le_refl _) (fun _ _ _ => rfl) (.slice none 0 0) (.rw e sz []) (fun b hb => by simp [blk] at hb) (fun A' loc' hA hl1 hl2 => .rw [] (fun r hr => by simp at hr) ⟨by simp, .inl ⟨rfl, rfl⟩⟩ hsz (Nat.zero_le _) (fun x hx => by simp at hx) (fun i j r x hi => by simp at hi))
 exact ⟨_, h1.slot (by rw [hv]; exact .row (by simp)), fun j hj => if_neg (by omega)⟩
def isEff : Op → Bool
 | .alloc _ | .box .. | .store .. | .buildSlice .. | .makeSlice .. | .makeFunc .. | .makeMap .. | .mapUpdate .. | .range .. | .next .. | .entry _ => true
 | .call c => match c.callee with | .builtin .append | .builtin .delete => true | _ => false
 | _ => false
def pdr (E : Env) (ops : Array Oper) : List Oper → (St → Prop) → St → Prop
 | [], K, σ => K σ
 | o :: rest, K, σ => if isEff o.op then pops E ops (o :: rest) K σ else match o.guard with
   | none => ppop E o.op σ fun x => pdr E ops rest K (σ.put o.dst x)
   | some (j, want) => match gslot ops j with
     | some t => match σ.s t with
       | .sh (.val (.bool b)) => (b = want → ppop E o.op σ fun x => pdr E ops rest K (σ.put o.dst x)) ∧ (b = !want → pdr E ops rest K (σ.put o.dst (.sh (.val undef))))
       | .sh (.val (.tuple _)) => pdr E ops rest K (σ.put o.dst (.sh (.val undef)))
       | _ => False
     | none => False
def effAt : List Oper → Nat
 | [] => 0
 | o :: rest => if isEff o.op then 0 else effAt rest + 1
theorem pdr_pqs {E : Env} {ops : Array Oper} : ∀ (l : List Oper) (K : St → Prop) (σ : St), pdr E ops l K σ → pqs E ops (effAt l) l K σ
 | [], K, σ, h => h
 | o :: rest, K, σ, h => by
   simp only [pdr] at h
   simp only [effAt]
   split at h
   · rename_i he
     rw [if_pos he]
     exact h
   · rename_i he
     rw [if_neg he]
     have ih := fun K σ => pdr_pqs (E := E) (ops := ops) rest K σ
     cases hg : o.guard with
     | none =>
       simp only [pqs, hg] at h ⊢
       obtain ⟨x, hx, hall⟩ := ppop_ex h
       exact hall (fun x => pqs E ops (effAt rest) rest K (σ.put o.dst x)) (ih _ _ hx)
     | some g =>
       obtain ⟨j, want⟩ := g
       simp only [pqs, hg] at h ⊢
       cases ht : gslot ops j with
       | none => simp only [ht] at h
       | some t =>
         simp only [ht] at h ⊢
         split at h
         · rename_i b hs
           simp only [hs]
           refine ⟨fun e => ?_, fun e => ih _ _ (h.2 e)⟩
           obtain ⟨x, hx, hall⟩ := ppop_ex (h.1 e)
           exact hall (fun x => pqs E ops (effAt rest) rest K (σ.put o.dst x)) (ih _ _ hx)
         · rename_i vs hs
           simp only [hs]
           exact ih _ _ h
         · exact h.elim
def codeOk (n : Nat) : Code → Bool
 | .region _ ops _ => ops.toList.all (fun o => match o.dst with | some t => decide (t < n) | none => true)
 | .seq x y => codeOk n x && codeOk n y
 | .cond _ x y => codeOk n x && codeOk n y
 | .block _ c => codeOk n c
 | .loop c => codeOk n c
 | _ => true
def SemR (E : Env) (c : Code) (Q : Exit → St → Prop) (σ : St) : Prop := ∀ (w0 : Base) (A0 : Nat → Prop) (n : Nat) (Q' : Exit → Act → World → Prop) (a : Act) (w : World) (loc : Nat → Value), codeOk n c = true → a.tmps.size = n → Inv E.gpv w0 A0 σ a w loc →
   (∀ e τ a' w' loc', Q e τ → Inv E.gpv w0 A0 τ a' w' loc' → a'.tmps.size = n → (n ≤ 1000000 → ∀ j, 1000000 ≤ j → loc' j = loc j) → Q' e a' w') → c.wp E.P Q' a w
def pwp (E : Env) : Code → (Exit → St → Prop) → St → Prop
 | .skip, Q, σ => Q .normal σ
 | .label _, Q, σ => Q .normal σ
 | .region id ops draw, Q, σ => ∃ τ, Weak E σ τ ∧ ((if draw then drawOk ops (effAt ops.toList) = true ∧ pdr E ops ops.toList (Q .normal) τ else pops E ops ops.toList (Q .normal) τ) ∨
     (draw = true ∧ ∃ m fls R, drawOk2 ops m fls R = true ∧ pfr E ops fls R m 0 ops.toList [] (Q .normal) τ) ∨ SemR E (.region id ops draw) Q τ)
 | .seq x y, Q, σ => pwp E x (fun e τ => match e with | .normal => pwp E y Q τ | e => Q e τ) σ
 | .cond c x y, Q, σ => match σ.ev E c with
   | .sh (.val (.bool b)) => (b = true → pwp E x Q σ) ∧ (b = false → pwp E y Q σ)
   | _ => False
 | .block id c, Q, σ => pwp E c (fun e τ => match e with | .exit i => if i = id then Q .normal τ else Q (.exit i) τ | e => Q e τ) σ
 | .loop c, Q, σ => ∃ (I : Nat → St → Prop) (n : Nat) (τ : St), Weak E σ τ ∧ I n τ ∧ ∀ m τ, I m τ → pwp E c (fun e υ => match e with | .normal => ∃ m' υ', m' < m ∧ Weak E υ υ' ∧ I m' υ' | e => Q e υ) τ
 | .exit id, Q, σ => Q (.exit id) σ
 | .ret, Q, σ => Q .ret σ
 | _, _, _ => False
theorem least_of {p : Nat → Prop} (h : ∃ n, p n) : ∃ n, p n ∧ ∀ m, p m → n ≤ m := by
 obtain ⟨n, hn⟩ := h
 induction n using Nat.strongRecOn with
 | _ n ih =>
   by_cases hh : ∃ m, m < n ∧ p m
   · obtain ⟨m, h1, h2⟩ := hh
     exact ih m h1 h2
   · exact ⟨n, hn, fun m hm => Nat.le_of_not_lt fun hlt => hh ⟨m, hlt, hm⟩⟩
theorem pwp_sound {E : Env} (hmix : E.P.follows .mixedOrders = true) {w0 : Base} {A0 : Nat → Prop} {n : Nat} : ∀ (c : Code) (Q : Exit → St → Prop) (Q' : Exit → Act → World → Prop) (σ : St) (a : Act) (w : World) (loc : Nat → Value), codeOk n c = true → a.tmps.size = n →
   Inv E.gpv w0 A0 σ a w loc → pwp E c Q σ → (∀ e τ a' w' loc', Q e τ → Inv E.gpv w0 A0 τ a' w' loc' → a'.tmps.size = n → (n ≤ 1000000 → ∀ j, 1000000 ≤ j → loc' j = loc j) → Q' e a' w') → c.wp E.P Q' a w := by
 intro c
 induction c with
 | skip => exact fun Q Q' σ a w loc _ hn h hp hQ => wp_skip (hQ _ _ _ _ loc hp h hn (fun _ _ _ => rfl))
 | label l => exact fun Q Q' σ a w loc _ hn h hp hQ => wp_label (hQ _ _ _ _ loc hp h hn (fun _ _ _ => rfl))
 | ret => exact fun Q Q' σ a w loc _ hn h hp hQ => wp_ret (hQ _ _ _ _ loc hp h hn (fun _ _ _ => rfl))
 | exit id => exact fun Q Q' σ a w loc _ hn h hp hQ => wp_exit (hQ _ _ _ _ loc hp h hn (fun _ _ _ => rfl))
 | region id ops draw =>
   intro Q Q' σ a w loc hok hn h hp hQ
   simp only [codeOk] at hok
   have hd : ∀ o ∈ ops.toList, ∀ t, o.dst = some t → t < a.tmps.size := fun o ho t ht => by
     have := List.all_eq_true.1 hok o ho
     rw [ht] at this
     rw [hn]; simpa using this
   simp only [pwp] at hp
   obtain ⟨τ0, hw, hp⟩ := hp
   obtain ⟨loc0, h0, t0⟩ := hw w0 A0 a w loc h
   have hQ' : ∀ e τ a' w' loc', Q e τ → Inv E.gpv w0 A0 τ a' w' loc' → a'.tmps.size = n → (n ≤ 1000000 → ∀ j, 1000000 ≤ j → loc' j = loc0 j) → Q' e a' w' := fun e τ a' w' loc' h1 h2 h3 h4 => hQ e τ a' w' loc' h1 h2 h3 (fun q j hj => (h4 q j hj).trans (t0 j hj))
   rcases hp with hp | ⟨rfl, m, fls, R, hok2, hp⟩ | hp
   · cases draw with
     | true =>
       simp only [if_true] at hp
       exact draw_sound hmix hp.1 h0 hd (pdr_pqs _ _ _ hp.2) (fun τ a' w' loc' h1 h2 h3 h4 => hQ' _ τ a' w' loc' h1 h2 (h3.trans hn) (fun q => h4 (by rw [hn]; exact q)))
     | false =>
       exact wp_region_list (pops_sound _ τ0 a w loc0 _ h0 hd (by simpa using hp) (fun τ a' w' loc' h1 h2 h3 h4 => hQ' _ τ a' w' loc' h1 h2 (h3.trans hn) (fun q => h4 (by rw [hn]; exact q))))
   · exact draw2_sound hmix hok2 h0 hd hp (fun τ a' w' loc' h1 h2 h3 h4 => hQ' _ τ a' w' loc' h1 h2 (h3.trans hn) (fun q => h4 (by rw [hn]; exact q)))
   · exact hp w0 A0 n Q' a w loc0 (by simpa only [codeOk] using hok) hn h0 hQ'
 | seq x y ihx ihy =>
   intro Q Q' σ a w loc hok hn h hp hQ
   simp only [codeOk, Bool.and_eq_true] at hok
   refine wp_seq (ihx _ _ σ a w loc hok.1 hn h hp (fun e τ a' w' loc' h1 h2 h3 h4 => ?_))
   cases e with
   | normal => exact ihy Q Q' τ a' w' loc' hok.2 h3 h2 h1 (fun e υ a2 w2 loc2 g1 g2 g3 g4 => hQ e υ a2 w2 loc2 g1 g2 g3 (fun q j hj => (g4 q j hj).trans (h4 q j hj)))
   | _ => exact hQ _ τ a' w' loc' h1 h2 h3 h4
 | cond c x y ihx ihy =>
   intro Q Q' σ a w loc hok hn h hp hQ
   simp only [codeOk, Bool.and_eq_true] at hok
   simp only [pwp] at hp
   split at hp
   · rename_i b hc
     have hv := ev_ok h c
     rw [hc] at hv
     exact wp_cond_split hv.val_eq (fun e => ihx Q Q' σ a w loc hok.1 hn h (hp.1 e) hQ) (fun e => ihy Q Q' σ a w loc hok.2 hn h (hp.2 e) hQ)
   · exact hp.elim
 | block id c ih =>
   intro Q Q' σ a w loc hok hn h hp hQ
   refine wp_block (ih _ _ σ a w loc hok hn h hp (fun e τ a' w' loc' h1 h2 h3 h4 => ?_))
   cases e with
   | exit i =>
     simp only [Exit.inBlock]
     by_cases hi : i = id
     · simp only [hi, if_true] at h1 ⊢; exact hQ _ τ a' w' loc' h1 h2 h3 h4
     · simp only [hi, if_false] at h1 ⊢; exact hQ _ τ a' w' loc' h1 h2 h3 h4
   | _ => exact hQ _ τ a' w' loc' h1 h2 h3 h4
 | loop c ih =>
   intro Q Q' σ a w loc hok hn h hp hQ
   obtain ⟨I, m0, τ0, hw, hI, hr⟩ := hp
   obtain ⟨loc0, h0, t0⟩ := hw w0 A0 a w loc h
   classical
   let pm : Act → World → Nat → Prop := fun a w m => a.tmps.size = n ∧ ∃ τ loc2, I m τ ∧ Inv E.gpv w0 A0 τ a w loc2 ∧ (n ≤ 1000000 → ∀ j, 1000000 ≤ j → loc2 j = loc j)
   have : ∃ μ : Act → World → Nat, ∀ a w, (∃ m, pm a w m) → pm a w (μ a w) ∧ ∀ m, pm a w m → μ a w ≤ m := by
     refine ⟨fun a w => if hh : ∃ m, pm a w m then Classical.choose (least_of hh) else 0, fun a w hh => ?_⟩
     simp only [dif_pos hh]
     exact Classical.choose_spec (least_of hh)
   obtain ⟨μ, hμ⟩ := this
   refine wp_loop (fun a w => ∃ m, pm a w m) μ ⟨m0, hn, τ0, loc0, hI, h0, fun _ => t0⟩ (fun a w hh => ?_)
   obtain ⟨⟨hn1, τ, loc1, hI1, h1, t1⟩, _⟩ := hμ a w hh
   refine ih _ _ τ a w loc1 hok hn1 h1 (hr _ τ hI1) (fun e υ a' w' loc' h2 h3 h4 h9 => ?_)
   cases e with
   | normal =>
     obtain ⟨m', υ', hlt, hw', hI'⟩ := h2
     obtain ⟨loc2, h5, t5⟩ := hw' w0 A0 a' w' loc' h3
     have t6 : n ≤ 1000000 → ∀ j, 1000000 ≤ j → loc2 j = loc j := fun q j hj => (t5 j hj).trans ((h9 q j hj).trans (t1 q j hj))
     have hex : ∃ m, pm a' w' m := ⟨m', h4, υ', loc2, hI', h5, t6⟩
     exact ⟨hex, Nat.lt_of_le_of_lt ((hμ a' w' hex).2 m' ⟨h4, υ', loc2, hI', h5, t6⟩) hlt⟩
   | _ => exact hQ _ υ a' w' loc' h2 h3 h4 (fun q j hj => (h9 q j hj).trans (t1 q j hj))
 | _ => exact fun Q Q' σ a w loc _ hn h hp hQ => hp.elim
def resP (E : Env) : List ResultVar → St → (List PV → Prop) → Prop
 | [], σ, K => K []
 | .tmp t :: rest, σ, K => withSh false σ (σ.s t) fun d τ => resP E rest τ fun ds => K (d :: ds)
 | .cell t T :: rest, σ, K => loadSh E T (.tmp t) σ fun x τ => withSh false τ x fun d υ => resP E rest υ fun ds => K (d :: ds)
def one? : List PV → PV
 | [d] => d
 | ds => .tup ds
theorem resP_sound {E : Env} {w0 : Base} {A0 : Nat → Prop} : ∀ (rs : List ResultVar) (σ : St) (a : Act) (w : World) (loc : Nat → Value) (K : List PV → Prop), Inv E.gpv w0 A0 σ a w loc → resP E rs σ K →
   ∃ vs ds, (rs.mapM (fun (r : ResultVar) => match r with | .tmp t => (pure (a.tmps.getD t undef) : Sem Value) | .cell t T => do loadVar T (← asAddr (a.tmps.getD t undef)))).run E.P w = .ok vs w ∧ K ds ∧ vs.length = ds.length ∧
     ∀ (j : Nat) (d : PV) (v : Value), ds[j]? = some d → vs[j]? = some v → R w A0 v d
 | [], σ, a, w, loc, K, h, hp => ⟨[], [], by simp, hp, rfl, fun j d v hj => by simp at hj⟩
 | r :: rs, σ, a, w, loc, K, h, hp => by
   have fin : ∀ (υ : St) (v : Value) (d : PV), (match r with | .tmp t => (pure (a.tmps.getD t undef) : Sem Value) | .cell t T => do loadVar T (← asAddr (a.tmps.getD t undef))).run E.P w = .ok v w → Inv E.gpv w0 A0 υ a w loc → R w A0 v d → (resP E rs υ fun ds => K (d :: ds)) →
       ∃ vs ds, ((r :: rs).mapM (fun (r : ResultVar) => match r with | .tmp t => (pure (a.tmps.getD t undef) : Sem Value) | .cell t T => do loadVar T (← asAddr (a.tmps.getD t undef)))).run E.P w = .ok vs w ∧ K ds ∧ vs.length = ds.length ∧
         ∀ (j : Nat) (d : PV) (v : Value), ds[j]? = some d → vs[j]? = some v → R w A0 v d := by
     intro υ v d hr hi hv hk
     obtain ⟨vs, ds, h1, h2, h3, h4⟩ := resP_sound rs υ a w loc _ hi hk
     refine ⟨v :: vs, d :: ds, ?_, h2, by simp [h3], fun j d' v' hj hj' => ?_⟩
     · simp only [List.mapM_cons, Sem.run_bind, hr, Result.andThen_ok, h1, Sem.run_pure]
     · cases j with
       | zero => simp at hj hj'; subst hj; subst hj'; exact hv
       | succ j => exact h4 j d' v' (by simpa using hj) (by simpa using hj')
   cases r with
   | tmp t =>
     simp only [resP] at hp
     have e : σ.s t = σ.ev E (.tmp t) := rfl
     rw [e] at hp
     obtain ⟨d, υ, h1, h2, h3, _⟩ := withSh_sound h hp
     exact fin υ _ d rfl h2 (h3.step (fun _ _ _ => rfl) (fun b _ hb => .inl hb)) h1
   | cell t T =>
     simp only [resP] at hp
     obtain ⟨τ, h1, h2⟩ := loadSh_sound h hp
     obtain ⟨p, v, y, hv, hr, hx, hK⟩ := load_core (x := .tmp t) h1 h2
     have hi : Inv E.gpv w0 A0 (τ.put (some t) y) { a with tmps := a.tmps } w loc → True := fun _ => trivial
     cases y with
     | sh d =>
       have hs : withSh false τ (.sh d) (fun d υ => resP E rs υ fun ds => K (d :: ds)) := hK
       unfold withSh at hs
       split at hs
       · rename_i e
         injection e with e
         have hvv := hx.sh_inv
         rw [e] at hvv
         cases hvv
         exact fin τ _ _ (by simp only [Act.eval] at hv; simp only [hv, asAddr, Sem.run_bind, Sem.run_pure, Result.andThen_ok, hr]) h1 (.nilsl none 0 (fun _ => rfl)) hs
       · rename_i e
         injection e with e
         have hvv := hx.sh_inv
         rw [e] at hvv
         obtain ⟨p0, hv0⟩ := hvv.e0_inv
         rw [hv0] at hr
         exact fin τ _ _ (by simp only [Act.eval] at hv; simp only [hv, asAddr, Sem.run_bind, Sem.run_pure, Result.andThen_ok, hr]) h1 (.nilsl p0 0 (fun _ => rfl)) hs
       · rename_i d' _ _ e
         injection e with e
         subst e
         exact fin τ v _ (by simp only [Act.eval] at hv; simp only [hv, asAddr, Sem.run_bind, Sem.run_pure, Result.andThen_ok, hr]) h1 (hx.sh_inv.nz.step (fun _ _ _ => rfl) (fun b _ hb => .inl hb)) hs
       · rename_i e; cases e
       · rename_i e; cases e
       · exact hs.elim
     | mr k => exact hK.elim
     | mg pre k =>
       have hs : withSh false τ (.mg pre k) (fun d υ => resP E rs υ fun ds => K (d :: ds)) := hK
       simp only [withSh] at hs
       split at hs
       · rename_i ds hk
         obtain ⟨_, hK'⟩ := hs
         obtain ⟨h3, h4⟩ := h1.shareM hk
         obtain ⟨b, cs, hl, hv1, hn, hlast, h5, h6⟩ := hx.mg_eq
         have hact : ∀ b, act (τ.shareM k ds) loc b → act τ loc b := by
           rintro b ⟨j, ob', hj, hb⟩
           obtain ⟨_, ob, h3, _⟩ := shareM_sub hj
           exact ⟨j, ob, h3, hb⟩
         refine fin _ v _ (by simp only [Act.eval] at hv; simp only [hv, asAddr, Sem.run_bind, Sem.run_pure, Result.andThen_ok, hr]) h3 ?_ hK'
         rw [hv1]
         refine .agg (by simp [hn]) h5 (fun j d hj => ?_)
         rcases Nat.lt_or_ge j pre.length with hlt | hge
         · rw [List.getElem?_append_left hlt] at hj
           exact (h6 j d hj).step (fun _ _ _ => rfl) (fun b _ hb => .inl hb)
         · rw [List.getElem?_append_right hge] at hj
           have hj0 : j = pre.length := by
             have := (List.getElem?_eq_some_iff.1 hj).1
             simp at this; omega
           subst hj0
           simp at hj
           subst hj
           rw [hlast, ← hl]; exact h4.step (fun _ _ _ => rfl) (fun b _ hb => .inl hb)
       · exact hs.elim
     | row k =>
       have hs : withSh false τ (.row k) (fun d υ => resP E rs υ fun ds => K (d :: ds)) := hK
       simp only [withSh] at hs
       split at hs
       · rename_i e sz rows hk
         obtain ⟨_, hsh, hK'⟩ := hs
         obtain ⟨h3, h4⟩ := h1.share hk hsh
         obtain ⟨p1, n1, c1, hl, hv1⟩ := hx.row_eq
         exact fin _ v _ (by simp only [Act.eval] at hv; simp only [hv, asAddr, Sem.run_bind, Sem.run_pure, Result.andThen_ok, hr]) h3 (by rw [hv1, ← hl]; exact h4.step (fun _ _ _ => rfl) (fun b _ hb => .inl hb)) hK'
       · exact hs.elim
     | bp k off => exact hK.elim
     | rp k sz i j => exact hK.elim
     | sub k sz i n => exact hK.elim
def initS (args : List PV) : St := { s := fun i => match args[i]? with | some d => .sh d | none => .sh .any, o := fun _ => none }
theorem con_of {E : Env} (hmix : E.P.follows .mixedOrders = true) {f : FuncId} {fn : Func} {c : Code} {args : List PV} {d : PV} (hf : E.P.funcs[f]? = some fn) (hname : (fn.name == "runtime.NumGoroutine") = false) (hb : fn.body = some c) (hok : codeOk fn.ntmps c = true)
    (hargs : args.length ≤ fn.ntmps)
    (hp : pwp E c (fun e σ => match e with | .normal | .ret => resP E fn.results.toList σ fun ds => one? ds = d | _ => False) (initS args)) : Con E f args d := by
  refine ⟨fun vs w => ?_, fun w A vs hn hR hA hG => ?_⟩
  · have h1 : fn.name ≠ "runtime.NumGoroutine" := by simpa using hname
    simp [callFunc, hf, h1, hb]
  · refine calls_of_wp hf hb ?_
    have hsz : (vs ++ Array.replicate (fn.ntmps - vs.size) undef).size = fn.ntmps := by simp; omega
    have hinv : Inv E.gpv ⟨w, fun b => b < w.heap.size, fun _ h => h⟩ A (initS args) { tmps := vs ++ Array.replicate (fn.ntmps - vs.size) undef, defers := [] } w (fun _ => undef) := by
      have hact : ∀ b, (A b ∨ act (initS args) (fun _ => undef) b) → A b := by
        rintro b (hb | ⟨k, ob, hk, _⟩)
        · exact hb
        · simp [initS] at hk
      refine { iB := ⟨rfl, rfl, rfl, Nat.le_refl _, fun _ _ => rfl⟩, iA := hA, iD := rfl, iS := fun t => ?_, iO := fun k ob hk => by simp [initS] at hk, iJ := fun k k' ob ob' b hk => by simp [initS] at hk, iF := fun k ob b hk => by simp [initS] at hk, iG := fun g => (hG g).step (fun _ _ _ => rfl) (fun b _ => hact b) }
      cases hq : args[t]? with
      | none =>
        have : (initS args).s t = .sh .any := by simp only [initS, hq]
        rw [this]; exact .sh (.any _)
      | some x =>
        have hst : (initS args).s t = .sh x := by simp only [initS, hq]
        rw [hst]
        have hlt : t < vs.size := by rw [hn]; exact (List.getElem?_eq_some_iff.1 hq).1
        have := (hR t x hq).step (w' := w) (A' := fun b => A b ∨ act (initS args) (fun _ => undef) b) (fun _ _ _ => rfl) (fun b _ => hact b)
        refine .sh ?_
        simpa [Array.getD_eq_getD_getElem?, Array.getElem?_append, hlt] using this
    refine pwp_sound hmix c _ _ (initS args) _ w _ hok hsz hinv hp (fun e τ a' w' loc' hq h3 h4 _ => ?_)
    have fin : (resP E fn.results.toList τ fun ds => one? ds = d) → a'.defers = [] ∧ ∃ v, (results fn a'.tmps).run E.P w' = .ok v w' ∧ ∃ u, Ending.returned v = .returned u ∧ R w' A u d ∧ Below w.heap.size w w' := by
      intro hq
      obtain ⟨rs, ds, h5, h6, h7, h8⟩ := resP_sound _ τ a' w' loc' _ h3 hq
      refine ⟨h3.iD, ?_⟩
      have hm : (fn.results.mapM fun (r : ResultVar) => match r with | .tmp t => (pure (a'.tmps.getD t undef) : Sem Value) | .cell t T => do loadVar T (← asAddr (a'.tmps.getD t undef))).run E.P w' = .ok rs.toArray w' := by
        rw [Array.mapM_eq_mapM_toList]
        simp only [Sem.run_map, h5, Result.andThen_ok]
      have hres : (results fn a'.tmps).run E.P w' = .ok (if h : rs.toArray.size = 1 then rs.toArray[0] else .tuple rs.toArray) w' := by
        unfold results
        simp only [Sem.run_bind]
        refine Eq.trans (congrArg (fun q => Result.andThen q _) hm) ?_
        simp only [Result.andThen_ok, Sem.run_pure]
      refine ⟨_, hres, _, rfl, ?_, ⟨h3.iB.os, h3.iB.tape, h3.iB.output, h3.iB.size, h3.iB.block⟩⟩
      subst h6
      rcases rs with _ | ⟨v, _ | ⟨v2, rs⟩⟩
      · obtain rfl : ds = [] := List.eq_nil_of_length_eq_zero h7.symm
        exact .tup rfl (fun j d hd => by simp at hd)
      · obtain ⟨x, rfl⟩ : ∃ x, ds = [x] := by
          rcases ds with _ | ⟨x, _ | ⟨y, ds⟩⟩
          · simp at h7
          · exact ⟨x, rfl⟩
          · simp at h7
        exact h8 0 x v rfl rfl
      · rcases ds with _ | ⟨x, _ | ⟨y, ds⟩⟩
        · simp at h7
        · simp at h7
        · have hne : ¬ ((v :: v2 :: rs).toArray.size = 1) := by simp
          rw [dif_neg hne]
          refine .tup (by simpa using h7) (fun j d hd => ?_)
          have hjl : j < (v :: v2 :: rs).length := by rw [h7]; exact (List.getElem?_eq_some_iff.1 hd).1
          have := h8 j d _ hd (List.getElem?_eq_getElem hjl)
          rw [Array.getD_eq_getD_getElem?, List.getElem?_toArray, List.getElem?_eq_getElem hjl]
          exact this
    cases e with
    | normal => exact fin hq
    | ret => exact fin hq
    | _ => exact hq.elim
end Go.Pw
