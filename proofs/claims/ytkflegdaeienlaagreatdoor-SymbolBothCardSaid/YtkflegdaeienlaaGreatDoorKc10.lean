/- Merged from the working texts PwIm. -/
import Derived.Test.YtkflegdaeienlaaGreatDoorKc09
import Derived.Maps.RangeRun
set_option linter.all false
set_option maxHeartbeats 400000
set_option linter.unusedVariables false
set_option linter.unusedSimpArgs false
namespace Go.Pw
open Go.RowKit Go.MapKept
open Go.ChangeMaps (setBlock)
section
variable {E : Env} {w0 : Base} {A0 : Nat → Prop} {σ : St} {a : Act} {w : World} {loc : Nat → Value} {o : Oper} {Q : Exit → Act → World → Prop}
def isK (s : ByteArray) : Value → Bool
 | .string k => decide (k = s)
 | _ => false
theorem beq_nat_dec (a b : Nat) : (a == b) = decide (a = b) := rfl
theorem isK_not (s : ByteArray) (v : Value) : (!isK s v) = true ↔ v ≠ .string s := by cases v <;> simp [isK]
theorem isK_str (s k : ByteArray) : (!isK s (.string k)) = decide (k ≠ s) := by simp [isK]
def Mt {α β : Type} (M : α → β → Prop) : List α → List β → Prop
 | [], [] => True
 | x :: l, y :: m => M x y ∧ Mt M l m
 | _, _ => False
theorem Mt_of {α β : Type} {M : α → β → Prop} : ∀ {l : List α} {m : List β}, l.length = m.length → (∀ (j : Nat) (x : α) (y : β), l[j]? = some x → m[j]? = some y → M x y) → Mt M l m
 | [], [], _, _ => trivial
 | [], _ :: _, h, _ => by simp at h
 | _ :: _, [], h, _ => by simp at h
 | x :: l, y :: m, h, hm => ⟨hm 0 x y rfl rfl, Mt_of (by simpa using h) (fun j x' y' h1 h2 => hm (j + 1) x' y' (by simpa using h1) (by simpa using h2))⟩
theorem Mt_len {α β : Type} {M : α → β → Prop} : ∀ {l : List α} {m : List β}, Mt M l m → l.length = m.length
 | [], [], _ => rfl
 | [], _ :: _, h => h.elim
 | _ :: _, [], h => h.elim
 | x :: l, y :: m, h => by simp [Mt_len h.2]
theorem Mt_get {α β : Type} {M : α → β → Prop} : ∀ {l : List α} {m : List β}, Mt M l m → ∀ (j : Nat) (x : α) (y : β), l[j]? = some x → m[j]? = some y → M x y
 | [], [], _, j, x, y, h, _ => by simp at h
 | [], _ :: _, h, _, _, _, _, _ => h.elim
 | _ :: _, [], h, _, _, _, _, _ => h.elim
 | x :: l, y :: m, h, 0, x', y', h1, h2 => by simp at h1 h2; subst h1; subst h2; exact h.1
 | x :: l, y :: m, h, j + 1, x', y', h1, h2 => Mt_get h.2 j x' y' (by simpa using h1) (by simpa using h2)
theorem Mt_filter {α β : Type} {M : α → β → Prop} {p : α → Bool} {q : β → Bool} (hpq : ∀ x y, M x y → p x = q y) : ∀ {l : List α} {m : List β}, Mt M l m → Mt M (l.filter p) (m.filter q)
 | [], [], _ => trivial
 | [], _ :: _, h => h.elim
 | _ :: _, [], h => h.elim
 | x :: l, y :: m, h => by
   have ih := Mt_filter hpq h.2
   have e := hpq x y h.1
   simp only [List.filter_cons, e]
   split
   · exact ⟨h.1, ih⟩
   · exact ih
theorem Mt_erase {α β : Type} {M : α → β → Prop} : ∀ {l : List α} {m : List β} (j : Nat), Mt M l m → Mt M (l.eraseIdx j) (m.eraseIdx j)
 | [], [], _, _ => trivial
 | [], _ :: _, _, h => h.elim
 | _ :: _, [], _, h => h.elim
 | x :: l, y :: m, 0, h => h.2
 | x :: l, y :: m, j + 1, h => ⟨h.1, Mt_erase j h.2⟩
theorem Mt_mono {α β : Type} {M N : α → β → Prop} (hi : ∀ x y, M x y → N x y) : ∀ {l : List α} {m : List β}, Mt M l m → Mt N l m
 | [], [], _ => trivial
 | [], _ :: _, h => h.elim
 | _ :: _, [], h => h.elim
 | x :: l, y :: m, h => ⟨hi _ _ h.1, Mt_mono hi h.2⟩
def ME (w : World) (A : Nat → Prop) (e : MapEntry) (p : ByteArray × PV) : Prop := e.key = .string p.1 ∧ R w A e.val p.2
theorem MapIs.mt {A : Nat → Prop} {b : Nat} {ds : List (ByteArray × PV)} {es : Array MapEntry} {clock : Nat} {es' : List MapEntry} (m : MapIs w A b ds es clock es') : Mt (ME w A) es' ds :=
 Mt_of m.hn fun j e p h1 h2 => ⟨m.hk j e p.1 p.2 h1 h2, m.hr j e p.1 p.2 h1 h2⟩
theorem MapIs.stamped {A : Nat → Prop} {b : Nat} {ds : List (ByteArray × PV)} {es : Array MapEntry} {clock : Nat} {es' : List MapEntry} (m : MapIs w A b ds es clock es') : Stamped es clock := by
 refine ⟨m.hc, m.hb, ?_⟩
 have h1 : (es'.map (·.key)).Nodup := by
   have : ∀ {l : List MapEntry} {ds : List (ByteArray × PV)}, Mt (ME w A) l ds → l.map (·.key) = ds.map fun p => .string p.1 := by
     intro l
     induction l with
     | nil => intro ds h; cases ds with | nil => rfl | cons _ _ => exact h.elim
     | cons e l ih => intro ds h; cases ds with | nil => exact h.elim | cons p ds => simp only [List.map_cons, h.1.1, ih h.2]
   rw [this m.mt]
   have h2 := m.hd
   rw [List.Nodup, List.pairwise_map] at h2 ⊢
   exact h2.imp (fun h e => h (by injection e))
 exact (m.hp.map _).nodup_iff.2 h1
theorem mp_is (h : Inv E.gpv w0 A0 σ a w loc) {q : Nat} {ds : List (ByteArray × PV)} (hob : σ.o q = some (.mp ds)) : ∃ b es clock es', loc q = .map (some b) ∧ MapIs w (fun b => A0 b ∨ act σ loc b) b ds es clock es' := by
 obtain ⟨b, clock, es, es', hv, h1, h2, h3, h4, h5, h6, h7, h8⟩ := mp_inv (h.iO q _ hob)
 exact ⟨b, es, clock, es', hv, h1, h2, h3, h4, h5, h6, h7, h8⟩
theorem ObAt.ofMap {A : Nat → Prop} {B b : Nat} {ds : List (ByteArray × PV)} {es : Array MapEntry} {clock : Nat} {es' : List MapEntry} (hg : w.heap[b]? = some (.map es clock)) (hs : Stamped es clock) (hp : es.toList.Perm es') (hm : Mt (ME w A) es' ds) : ObAt w A loc B (.map (some b)) (.mp ds) := by
 refine .mp es' hg hp (Mt_len hm) ?_ hs.2.1 hs.1 (fun j e k d h1 h2 => (Mt_get hm j e (k, d) h1 h2).1) (fun j e k d h1 h2 => (Mt_get hm j e (k, d) h1 h2).2)
 have h3 : (es'.map (·.key)).Nodup := (hp.map _).nodup_iff.1 hs.2.2
 have : ∀ {l : List MapEntry} {ds : List (ByteArray × PV)}, Mt (ME w A) l ds → l.map (·.key) = ds.map fun p => .string p.1 := by
   intro l
   induction l with
   | nil => intro ds h; cases ds with | nil => rfl | cons _ _ => exact h.elim
   | cons e l ih => intro ds h; cases ds with | nil => exact h.elim | cons p ds => simp only [List.map_cons, h.1.1, ih h.2]
 rw [this hm] at h3
 rw [List.Nodup, List.pairwise_map] at h3 ⊢
 exact h3.imp (fun h e => h (by rw [e]))
theorem makeMap_sound (h : Inv E.gpv w0 A0 σ a w loc) (hd : ∀ t, o.dst = some t → t < a.tmps.size) {T : Nat} (ho : o.op = .makeMap T none) {K : SV → St → Prop} (hp : epop E o.dst (.makeMap T none) σ K) : EGives E w0 A0 w loc o a K Q := by
 simp only [epop] at hp
 split at hp
 · rename_i d hdst
   have hbel : Below w.heap.size w (w.alloc (.map #[] 0)) := Below.alloc (Below.refl _ _) (Nat.le_refl _) _
   have hinv := h.remake d (h.iB.below hbel) hbel.size (fun b hb _ => hbel.block b hb) (.map (some w.heap.size)) (.mp []) (fun b hb => by
     have : b = w.heap.size := by simpa [blk] using hb.symm
     subst this
     exact ⟨h.fresh (Nat.le_refl _), by rw [size_alloc]; omega, .inl (Nat.le_refl _)⟩) (fun A' loc' _ _ _ => ObAt.ofMap (heap_new w _) (stamped_empty 0) (es' := []) (by simp) trivial)
   refine EGives.run hd (Trk.dst hd hdst _ _) (v := .map (some w.heap.size)) ?_ hinv (.mr (by simp)) hp
   simp [execOp, ho, Instr.makeMap, Result.andThen]
 · exact hp.elim
theorem split_at {l : List MapEntry} {j : Nat} {e : MapEntry} (h : l[j]? = some e) : ∃ l1 l2, l = l1 ++ e :: l2 ∧ l1.length = j := by
 obtain ⟨hl, he⟩ := List.getElem?_eq_some_iff.1 h
 exact ⟨l.take j, l.drop (j + 1), by rw [← he, List.getElem_cons_drop, List.take_append_drop], by simp; omega⟩
theorem filter_out {l1 l2 : List MapEntry} {e : MapEntry} {k : Value} (hk : e.key = k) (hn : ((l1 ++ e :: l2).map (·.key)).Nodup) {p : MapEntry → Bool} (hp : ∀ x, p x = true ↔ x.key ≠ k) : (l1 ++ e :: l2).filter p = l1 ++ l2 := by
 rw [List.map_append, List.map_cons, List.nodup_append] at hn
 obtain ⟨h1, h2, h3⟩ := hn
 rw [List.nodup_cons] at h2
 have hne : p e = false := by
   cases hq : p e with
   | false => rfl
   | true => exact absurd hk ((hp e).1 hq)
 rw [List.filter_append, List.filter_cons, hne]
 simp only [Bool.false_eq_true, if_false]
 rw [List.filter_eq_self.2, List.filter_eq_self.2]
 · intro x hx
   refine (hp x).2 (fun hxk => h2.1 (List.mem_map.2 ⟨x, hx, by rw [hxk, hk]⟩))
 · intro x hx
   refine (hp x).2 (fun hxk => h3 x.key (List.mem_map.2 ⟨x, hx, rfl⟩) e.key (by simp) (by rw [hxk, hk]))
theorem setBlock_run {P : Program} {r : Nat} {es : Array MapEntry} {clock : Nat} (ob : Obj) (hb : w.heap[r]? = some (.map es clock)) : (setObj r ob).run P w = .ok () (setBlock w r ob) := by
 simp [setObj, Sem.run, hb, setBlock]
theorem setBlock_heap {r : Nat} {ob ob' : Obj} (hb : w.heap[r]? = some ob) : (setBlock w r ob').heap[r]? = some ob' ∧ ∀ q, q ≠ r → (setBlock w r ob').heap[q]? = w.heap[q]? := by
 obtain ⟨h1, h2⟩ := heap_set (w := w) (r := r) (o' := ob') hb
 exact ⟨by simpa [setBlock] using h1, fun q hq => by simpa [setBlock] using h2 q hq⟩
theorem setBlock_fr {f : Base} (h : Fr f w) {r : Nat} (hr : ¬ f.X r) (ob : Obj) : Fr f (setBlock w r ob) :=
 h.next rfl rfl rfl (by simp [setBlock]) (fun k hk hx => by
   have hne : k ≠ r := fun e => hr (e ▸ hx)
   simp only [setBlock]
   first
     | rw [Array.getElem?_setIfInBounds_ne (Ne.symm hne)]
     | simp [Ne.symm hne])
theorem mapUpdate_sound (h : Inv E.gpv w0 A0 σ a w loc) (hd : ∀ t, o.dst = some t → t < a.tmps.size) {T : Nat} {m k v : Operand} (ho : o.op = .mapUpdate T m k v) {K : SV → St → Prop} (hp : epop E o.dst (.mapUpdate T m k v) σ K) : EGives E w0 A0 w loc o a K Q := by
 simp only [epop] at hp
 obtain ⟨kt, et, hT, hkt, hp⟩ := hp
 split at hp
 · rename_i s es0
   have hk := ev_ok h k
   rw [es0] at hk
   obtain ⟨d, τ, hp, h1, hxr, hsub, _⟩ := withSh_sound h hp
   split at hp
   · rename_i q em
     have hm := ev_ok h1 m
     rw [em] at hm
     obtain ⟨b0, hl0, hmv⟩ := hm.mr_eq
     split at hp
     · rename_i ds hob
       obtain ⟨b, es, clock, es', hl, mi⟩ := mp_is h1 hob
       rw [hl] at hl0
       injection hl0 with hl0; injection hl0 with hl0
       subst hl0
       have hst := mi.stamped
       have hks : ∀ e ∈ es.toList, IsKey .string e.key := fun e he => by obtain ⟨j, k, d, _, _, h3, _⟩ := mi.keys he; rw [h3]; trivial
       have hik : IsKey .string (.string s) := trivial
       have hfb := h1.iF q _ b hob (by rw [hl]; rfl)
       have fin : ∀ (es2 : Array MapEntry) (clock2 : Nat) (x : MapEntry), x.key = .string s → x.val = a.eval v → Stamped es2 clock2 → es2.toList.Perm (x :: es.toList.filter fun e => !isK s e.key) →
           (Instr.mapUpdate T (.map (some b)) (.string s) (a.eval v)).run E.P w = .ok () (setBlock w b (.map es2 clock2)) → EGives E w0 A0 w loc o a K Q := fun es2 clock2 x hxk hxv hst2 hp2 hrun => by
         obtain ⟨g1, g2⟩ := setBlock_heap (ob' := .map es2 clock2) mi.hg
         have hinv := h1.rewrite q hob (setBlock_fr h1.iB hfb.1.1 _) (by simp [setBlock]) (fun b2 hb2 hne => g2 b2 (fun e => hne (by rw [hl, e]; rfl))) (.mp (mput s d ds)) (fun A' hA => by
           rw [hl]
           have hmt : Mt (ME (setBlock w b (.map es2 clock2)) A') es' ds := Mt_mono (fun e p hep => ⟨hep.1, hep.2.step (fun b2 hb2 hn2 => g2 b2 (fun e => hn2 (.inr ⟨q, _, hob, by rw [hl, e]; rfl⟩))) hA⟩) mi.mt
           refine ObAt.ofMap g1 hst2 (hp2.trans (List.Perm.cons x (mi.hp.filter _))) ⟨⟨hxk, ?_⟩, Mt_filter (fun e p hep => ?_) hmt⟩
           · rw [hxv]; exact hxr.step (fun b2 hb2 hn2 => g2 b2 (fun e => hn2 (.inr ⟨q, _, hob, by rw [hl, e]; rfl⟩))) hA
           · rw [hep.1]; exact isK_str s p.1)
         intro next hn
         unfold Oper.wp
         have : (execOp a.eval o).run E.P w = .ok .skip (setBlock w b (.map es2 clock2)) := by simp only [execOp, ho, hmv, hk.val_eq, Sem.run_bind, hrun, Result.andThen_ok, Sem.run_pure]
         rw [this]
         exact hn _ _ _ _ _ hp (hinv.put hd (.sh (.any _))) (put_size _ _ _) (Trk.refl _ _)
       rcases findNow_spec hik es.toList 0 hks with ⟨h3, h4⟩ | ⟨j, e, h3, h4, h5⟩
       · refine fin (es.push { key := .string s, val := a.eval v, born := clock }) (clock + 1) { key := .string s, val := a.eval v, born := clock } rfl rfl (stamped_push hst h4) ?_ ?_
         · rw [Array.toList_push, List.filter_eq_self.2 (fun x hx => (isK_not s x.key).2 (h4 x hx))]
           exact List.perm_append_singleton _ _
         · simp [Instr.mapUpdate, run_underlying hT, Go.MapKept.run_getObj_map mi.hg, run_checkKey hkt hik, run_findKey hkt h3, setBlock_run _ mi.hg, Result.andThen]
       · have hj : es[j]? = some e := by simpa using h4
         have hkey : ∀ e', es[j]? = some e' → ({ e' with key := .string s, val := a.eval v } : MapEntry).key = e'.key := fun e' he' => by rw [hj] at he'; cases he'; exact h5.symm
         refine fin (es.modify j fun e => { e with key := .string s, val := a.eval v }) clock { e with key := .string s, val := a.eval v } rfl rfl (stamped_modify hst _ _ (fun _ _ => rfl) (fun e' _ he' => hkey e' he')) ?_ ?_
         · obtain ⟨l1, l2, hsp, hlj⟩ := split_at h4
           have hmod : (es.modify j fun e => { e with key := .string s, val := a.eval v }).toList = l1 ++ { e with key := .string s, val := a.eval v } :: l2 := by
             have hlt2 : l1.length < (l1 ++ e :: l2).length := by simp
             rw [Array.toList_modify, hsp, ← hlj, List.modify_eq_take_cons_drop hlt2]
             simp
           have hn := hst.2.2
           rw [hsp] at hn
           rw [hmod, hsp, filter_out h5 hn (fun x => isK_not s x.key)]
           exact List.perm_middle
         · simp [Instr.mapUpdate, run_underlying hT, Go.MapKept.run_getObj_map mi.hg, run_checkKey hkt hik, run_findKey hkt h3, hj, h5, run_keyThatStays hik, setBlock_run _ mi.hg, Result.andThen]
     · exact hp.elim
   · exact hp.elim
 · exact hp.elim
theorem delete_sound (h : Inv E.gpv w0 A0 σ a w loc) (hd : ∀ t, o.dst = some t → t < a.tmps.size) {c : Call} (ho : o.op = .call c) (hc : c.callee = .builtin .delete) {K : SV → St → Prop} (hp : epop E o.dst (.call c) σ K) : EGives E w0 A0 w loc o a K Q := by
 simp only [epop, hc] at hp
 split at hp
 · rename_i m k T t2 hargs htys
   obtain ⟨kt, et, hT, hkt, hp⟩ := hp
   have hca : c.args = #[m, k] := Array.ext' hargs
   have hct : c.argTypes = #[T, t2] := Array.ext' htys
   split at hp
   · rename_i q s em es0
     have hm := ev_ok h m
     have hk := ev_ok h k
     rw [em] at hm
     rw [es0] at hk
     obtain ⟨b0, hl0, hmv⟩ := hm.mr_eq
     split at hp
     · rename_i ds hob
       obtain ⟨b, es, clock, es', hl, mi⟩ := mp_is h hob
       rw [hl] at hl0
       injection hl0 with hl0; injection hl0 with hl0
       subst hl0
       have hst := mi.stamped
       have hks : ∀ e ∈ es.toList, IsKey .string e.key := fun e he => by obtain ⟨j, k, d, _, _, h3, _⟩ := mi.keys he; rw [h3]; trivial
       have hik : IsKey .string (.string s) := trivial
       have hfb := h.iF q _ b hob (by rw [hl]; rfl)
       have fin : ∀ (es2 : Array MapEntry), Stamped es2 clock → es2.toList = (es.toList.filter fun e => !isK s e.key) →
           (Builtin.delete_ #[T, t2] o.type #[.map (some b), .string s]).run E.P w = .ok (.tuple #[]) (setBlock w b (.map es2 clock)) → EGives E w0 A0 w loc o a K Q := fun es2 hst2 hp2 hrun => by
         obtain ⟨g1, g2⟩ := setBlock_heap (ob' := .map es2 clock) mi.hg
         have hinv := h.rewrite q hob (setBlock_fr h.iB hfb.1.1 _) (by simp [setBlock]) (fun b2 hb2 hne => g2 b2 (fun e => hne (by rw [hl, e]; rfl))) (.mp (mdel s ds)) (fun A' hA => by
           rw [hl]
           have hmt : Mt (ME (setBlock w b (.map es2 clock)) A') es' ds := Mt_mono (fun e p hep => ⟨hep.1, hep.2.step (fun b2 hb2 hn2 => g2 b2 (fun e => hn2 (.inr ⟨q, _, hob, by rw [hl, e]; rfl⟩))) hA⟩) mi.mt
           refine ObAt.ofMap g1 hst2 (by rw [hp2]; exact mi.hp.filter _) (Mt_filter (fun e p hep => ?_) hmt)
           rw [hep.1]; exact isK_str s p.1)
         refine EGives.run hd (Trk.refl _ _) (v := .tuple #[]) ?_ hinv (.sh (.any _)) hp
         refine run_builtin ho hc w (fun consts => ?_)
         rw [hca, hct]
         simp only [builtin, Sem.run_bind, List.map_toArray, List.map_cons, List.map_nil, hmv, hk.val_eq, hrun, Result.andThen_ok, Sem.run_pure]
       rcases findNow_spec hik es.toList 0 hks with ⟨h3, h4⟩ | ⟨j, e, h3, h4, h5⟩
       · refine fin es hst (List.filter_eq_self.2 (fun x hx => (isK_not s x.key).2 (h4 x hx))).symm ?_
         simp [Builtin.delete_, run_underlying hT, Go.MapKept.run_getObj_map mi.hg, run_checkKey hkt hik, run_findKey hkt h3, setBlock_run _ mi.hg, Result.andThen]
       · refine fin (es.eraseIdxIfInBounds j) (stamped_erase hst j) ?_ ?_
         · obtain ⟨l1, l2, hsp, hlj⟩ := split_at h4
           have hn := hst.2.2
           rw [hsp] at hn
           have hlt : j < es.size := by have := (List.getElem?_eq_some_iff.1 h4).1; simpa using this
           have her : (es.eraseIdxIfInBounds j).toList = l1 ++ l2 := by
             unfold Array.eraseIdxIfInBounds
             rw [dif_pos hlt, Array.toList_eraseIdx, hsp, ← hlj]
             simp [List.eraseIdx_append_of_length_le]
           rw [her, hsp, filter_out h5 hn (fun x => isK_not s x.key)]
         · simp [Builtin.delete_, run_underlying hT, Go.MapKept.run_getObj_map mi.hg, run_checkKey hkt hik, run_findKey hkt h3, setBlock_run _ mi.hg, Result.andThen]
     · exact hp.elim
   · exact hp.elim
 · exact hp.elim
theorem range_sound (h : Inv E.gpv w0 A0 σ a w loc) (hd : ∀ t, o.dst = some t → t < a.tmps.size) {T : Nat} {x : Operand} (ho : o.op = .range T x) {K : SV → St → Prop} (hp : epop E o.dst (.range T x) σ K) : EGives E w0 A0 w loc o a K Q := by
 simp only [epop] at hp
 obtain ⟨kt, et, hT, hp⟩ := hp
 split at hp
 · rename_i d ds hdst ex
   have hx := ev_ok h x
   rw [ex] at hx
   obtain ⟨m, clock, es, es', hv, hA, hg, hpm, hn, hnd, hb, hc, hk, hr⟩ := hx.sh_inv.mp_inv
   have hbel : Below w.heap.size w (w.alloc (.mapIter (some m) clock #[] clock)) := Below.alloc (Below.refl _ _) (Nat.le_refl _) _
   have hlt : m < w.heap.size := (Array.getElem?_eq_some_iff.1 hg).1
   have hinv := h.remake d (h.iB.below hbel) hbel.size (fun b hb _ => hbel.block b hb) (.pointer (some ⟨w.heap.size, 0, none⟩)) (.it none ds) (fun b hb => by
     have : b = w.heap.size := by simpa [blk] using hb.symm
     subst this
     exact ⟨h.fresh (Nat.le_refl _), by rw [size_alloc]; omega, .inl (Nat.le_refl _)⟩) (fun A' loc' hA' _ _ => by
     refine .it es' (heap_new w _) (fun h' => hA (hA' m hlt h')) (by rw [hbel.block m hlt]; exact hg) hb hc ?_ hn hk (fun j e k d h1 h2 => (hr j e k d h1 h2).step (fun b hb _ => hbel.block b hb) hA') (fun k d e => by cases e)
     have : (es.toList.filter fun e => !(#[] : Array Nat).contains e.born) = es.toList := List.filter_eq_self.2 (fun x _ => by simp)
     rw [this]; exact hpm)
   refine EGives.run hd (Trk.dst hd hdst _ _) (v := .pointer (some ⟨w.heap.size, 0, none⟩)) ?_ hinv (.bp (by simp)) hp
   simp [execOp, ho, hv, Instr.range, run_underlying hT, Go.MapKept.run_getObj_map hg, Result.andThen]
 · exact hp.elim
theorem filter_born {l : List MapEntry} (hn : (l.map (·.born)).Nodup) {j : Nat} {e : MapEntry} (he : l[j]? = some e) : (l.filter fun x => decide (x.born ≠ e.born)) = l.eraseIdx j := by
 obtain ⟨l1, l2, rfl, rfl⟩ := split_at he
 rw [List.map_append, List.map_cons, List.nodup_append] at hn
 obtain ⟨h1, h2, h3⟩ := hn
 rw [List.nodup_cons] at h2
 rw [List.filter_append, List.filter_cons]
 simp only [ne_eq, not_true_eq_false, decide_false, Bool.false_eq_true, if_false]
 rw [List.filter_eq_self.2, List.filter_eq_self.2]
 · simp [List.eraseIdx_append_of_length_le]
 · intro x hx
   simp only [decide_not, Bool.not_eq_true', decide_eq_false_iff_not]
   exact fun hb => h2.1 (List.mem_map.2 ⟨x, hx, hb⟩)
 · intro x hx
   simp only [decide_not, Bool.not_eq_true', decide_eq_false_iff_not]
   exact fun hb => h3 x.born (List.mem_map.2 ⟨x, hx, rfl⟩) e.born (by simp) hb
theorem next_sound (h : Inv E.gpv w0 A0 σ a w loc) (hd : ∀ t, o.dst = some t → t < a.tmps.size) {x : Operand} {s : Bool} (ho : o.op = .next x s) {K : SV → St → Prop} (hp : epop E o.dst (.next x s) σ K) : EGives E w0 A0 w loc o a K Q := by
 simp only [epop] at hp
 obtain ⟨rfl, hp⟩ := hp
 split at hp
 · rename_i k ex
   have hx := ev_ok h x
   rw [ex] at hx
   obtain ⟨b0, hl0, hv⟩ := hx.bp_eq
   split at hp
   · rename_i cur rem hob
     obtain ⟨b, m, clock, seen, es, rem', hl, hg, hA, hm, hb, hc, hpm, hn, hk, hr, hcur⟩ := it_inv (h.iO k _ hob)
     rw [hl] at hl0
     injection hl0 with hl0; injection hl0 with hl0; injection hl0 with hl0
     subst hl0
     have hleft : (leftOf es seen).toList = es.toList.filter fun e => !seen.contains e.born := by simp [leftOf]
     rcases run_next_at (P := E.P) w o.type b m clock clock seen es clock hg hm hc (Nat.le_refl _) with ⟨h0, hrun⟩ | ⟨e, he, w1, hw1, hrun⟩
     · have hrem : rem = [] := by
         have : (es.toList.filter fun e => !seen.contains e.born) = [] := by
           rw [← hleft]; exact List.eq_nil_of_length_eq_zero (by simpa using h0)
         rw [this] at hpm
         have := hpm.symm.eq_nil
         rw [this] at hn
         exact List.eq_nil_of_length_eq_zero hn.symm
       refine EGives.run hd (Trk.refl _ _) (v := .tuple #[.bool false]) ?_ h (.sh (.tup rfl (fun j d hj => ?_))) (hp.1 hrem)
       · simp only [execOp, ho, hv, Sem.run_bind, hrun, Result.andThen_ok, Sem.run_pure]
       · cases j with
         | zero => simp at hj; subst hj; exact .val _
         | succ j => simp at hj
     · rw [hleft] at he
       obtain ⟨j, hj⟩ := List.mem_iff_getElem?.1 (hpm.mem_iff.1 he)
       have hjl : j < rem.length := by rw [← hn]; exact (List.getElem?_eq_some_iff.1 hj).1
       have hrj : rem[j]? = some (rem[j].1, rem[j].2) := List.getElem?_eq_getElem hjl
       have hkey := hk j e _ _ hj hrj
       have hval := hr j e _ _ hj hrj
       have hw1b : Below w.heap.size w w1 ∧ w1.heap = w.heap := by
         rcases hw1 with rfl | rfl
         · exact ⟨Below.refl _ _, rfl⟩
         · exact ⟨Below.drew (Below.refl _ _), rfl⟩
       have h1 := h.grow hw1b.1
       have hg1 : w1.heap[b]? = some (.mapIter (some m) clock seen clock) := by rw [hw1b.2]; exact hg
       have hm1 : w1.heap[m]? = some (.map es clock) := by rw [hw1b.2]; exact hm
       obtain ⟨g1, g2⟩ := setBlock_heap (w := w1) (ob' := .mapIter (some m) clock (seen.push e.born) clock) hg1
       have hfb := h.iF k _ b hob (by rw [hl]; rfl)
       have hmb : m ≠ b := fun e => hA (.inr ⟨k, _, hob, by rw [hl, e]; rfl⟩)
       have hsame : ∀ A' : Nat → Prop, (∀ b2, b2 < w1.heap.size → A' b2 → (A0 b2 ∨ act σ loc b2)) → ∀ {u : Value} {d : PV}, R w (fun b => A0 b ∨ act σ loc b) u d → R (setBlock w1 b (.mapIter (some m) clock (seen.push e.born) clock)) A' u d := fun A' hA' u d hu =>
         hu.step (fun b2 hb2 hn2 => by rw [g2 b2 (fun e => hn2 (.inr ⟨k, _, hob, by rw [hl, e]; rfl⟩)), hw1b.2]) (fun b2 hb2 => hA' b2 (by rw [hw1b.2]; exact hb2))
       have hinv := h1.rewrite k hob (setBlock_fr h1.iB hfb.1.1 _) (by simp [setBlock]) (fun b2 hb2 hne => g2 b2 (fun e => hne (by rw [hl, e]; rfl))) (.it (some (rem[j].1, rem[j].2)) (rem.eraseIdx j)) (fun A' hA' => by
         rw [hl]
         have hborn' : (rem'.map (·.born)).Nodup := (hpm.map _).nodup_iff.1 ((List.filter_sublist.map _).nodup hb)
         have hmt : Mt (ME w (fun b => A0 b ∨ act σ loc b)) rem' rem := Mt_of hn fun j e p h1 h2 => ⟨hk j e p.1 p.2 h1 h2, hr j e p.1 p.2 h1 h2⟩
         have hmt2 := Mt_erase j hmt
         refine .it (rem'.eraseIdx j) g1 (fun h' => hA (hA' m (by rw [hw1b.2]; exact (Array.getElem?_eq_some_iff.1 hm).1) h')) (by rw [g2 m hmb]; exact hm1) hb hc ?_ (Mt_len hmt2) (fun j e k d h1 h2 => (Mt_get hmt2 j e (k, d) h1 h2).1) (fun j e k d h1 h2 => hsame A' hA' (Mt_get hmt2 j e (k, d) h1 h2).2) (fun k d ekd => ?_)
         · rw [← filter_born hborn' hj]
           have : (es.toList.filter fun x => !(seen.push e.born).contains x.born) = (es.toList.filter fun x => !seen.contains x.born).filter fun x => decide (x.born ≠ e.born) := by
             rw [List.filter_filter]
             apply List.filter_congr
             intro x _
             simp only [Array.contains_push, Bool.not_or]
             cases hq : seen.contains x.born <;> simp [hq, bne, Nat.beq_eq_true_eq, beq_nat_dec]
           rw [this]
           exact hpm.filter _
         · injection ekd with ekd; injection ekd with e1 e2
           subst e1; subst e2
           exact ⟨seen, e, rfl, (List.mem_filter.1 he).1, hkey, hsame A' hA' hval⟩)
       have hK := hp.2 j _ _ hrj
       refine EGives.run hd (Trk.refl _ _) (v := .tuple #[.bool true, e.key, e.val]) ?_ hinv (.sh (.tup rfl (fun q d hq => ?_))) hK
       · simp only [execOp, ho, hv, Sem.run_bind, hrun, Result.andThen_ok, Sem.run_pure]
       · match q with
         | 0 => simp at hq; subst hq; exact .val _
         | 1 => simp at hq; subst hq; simp [Array.getD, hkey]; exact .val _
         | 2 =>
           simp at hq; subst hq
           refine hsame _ (fun b2 _ hb2 => ?_) hval
           rcases hb2 with hb2 | ⟨j2, ob2, hj2, hbb⟩
           · exact .inl hb2
           · by_cases e2 : j2 = k
             · subst e2; exact .inr ⟨_, _, hob, hbb⟩
             · simp only [St.setO, if_neg e2] at hj2; exact .inr ⟨_, _, hj2, hbb⟩
         | q + 3 => simp at hq
   · exact hp.elim
 · exact hp.elim
theorem entry_sound (h : Inv E.gpv w0 A0 σ a w loc) (hd : ∀ t, o.dst = some t → t < a.tmps.size) {x : Operand} (ho : o.op = .entry x) {K : SV → St → Prop} (hp : epop E o.dst (.entry x) σ K) : EGives E w0 A0 w loc o a K Q := by
 simp only [epop] at hp
 split at hp
 · rename_i k ex
   have hx := ev_ok h x
   rw [ex] at hx
   obtain ⟨b0, hl0, hv⟩ := hx.bp_eq
   split at hp
   · rename_i s d rem hob
     obtain ⟨b, m, clock, seen, es, rem', hl, hg, hA, hm, hb, hc, hpm, hn, hk, hr, hcur⟩ := it_inv (h.iO k _ hob)
     rw [hl] at hl0
     injection hl0 with hl0; injection hl0 with hl0; injection hl0 with hl0
     subst hl0
     obtain ⟨seen', e, rfl, he, hkey, hval⟩ := hcur s d rfl
     have hrun := run_entry_at (P := E.P) w b m clock seen' es clock e hg hm he hb
     refine EGives.run hd (Trk.refl _ _) (v := .tuple #[e.key, e.val]) ?_ h (.sh (.tup rfl (fun q d hq => ?_))) hp
     · simp only [execOp, ho, hv, Sem.run_bind, hrun, Result.andThen_ok, Sem.run_pure]
     · match q with
       | 0 => simp at hq; subst hq; simp [Array.getD, hkey]; exact .val _
       | 1 => simp at hq; subst hq; exact hval
       | q + 2 => simp at hq
   · exact hp.elim
 · exact hp.elim
end
end Go.Pw
