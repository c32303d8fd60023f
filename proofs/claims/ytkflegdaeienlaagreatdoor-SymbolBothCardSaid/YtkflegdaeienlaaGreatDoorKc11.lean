/- Merged from the working texts PwJ PwK. -/
import Derived.Test.YtkflegdaeienlaaGreatDoorKc10
set_option linter.all false
set_option maxHeartbeats 400000
set_option linter.unusedVariables false
set_option linter.unusedSimpArgs false
namespace Go.Pw
open Go.RowKit
section
variable {E : Env} {w0 : Base} {A0 : Nat → Prop} {σ : St} {a : Act} {w : World} {loc : Nat → Value} {o : Oper} {Q : Exit → Act → World → Prop}
theorem below_grown {w0 : Base} {w w' : World} {v : Value} (h : Fr w0 w) (hg : w.grownBy w' v.ownBlock) (hb : ∀ b, v.ownBlock = some b → ¬ w0.X b) : Fr w0 w' :=
 h.next hg.os hg.tape hg.output hg.size (fun k hk hx => hg.block k hk fun e => hb k e.symm hx)
theorem ObAt.appended {w w' : World} {A A' : Nat → Prop} {loc loc' : Nat → Value} {B e sz k : Nat} {v' : Value} {rows : List (List SV)} {more : List (List PV)} {xs news : List Value}
   (hz : ∀ r ∈ rows, r.length = sz) (hzm : ∀ r ∈ more, r.length = sz) (hsz : 0 < sz) (hm : rows.length + more.length ≤ maxN) (hxl : xs.length = rows.length * sz) (hown : w'.ownsRow B e sz v' (rows.length + more.length) (xs ++ news))
   (h1 : ∀ x ∈ xs, x.oneCell' = true) (h2 : ∀ x ∈ news, x.oneCell' = true) (hr : ∀ i j r x, rows[i]? = some r → r[j]? = some x → RS w A loc (xs.getD (i * sz + j) undef) x)
   (hrm : ∀ i j r d, more[i]? = some r → r[j]? = some d → R w A (news.getD (i * sz + j) undef) d)
   (hs : ∀ b, b < w.heap.size → ¬ A b → w'.heap[b]? = w.heap[b]?) (hA : ∀ b, b < w.heap.size → A' b → A b) (hl : ∀ j, j ≠ k → loc' j = loc j) :
   ObAt w' A' loc' B v' (.rw e sz ((rows.map fun r => r.map (SV.kill k)) ++ SR more)) := by
 have hlen : ((rows.map fun r => r.map (SV.kill k)) ++ SR more).length = rows.length + more.length := by simp [SR_length]
 refine .rw (xs ++ news) (fun r hr' => ?_) (by rw [hlen]; exact hown) hsz (by rw [hlen]; exact hm) (fun x hx => ?_) (fun i j r x hi hj => ?_)
 · rcases List.mem_append.1 hr' with hr' | hr'
   · obtain ⟨q, hq, rfl⟩ := List.mem_map.1 hr'
     simpa using hz q hq
   · exact SR_mem hzm r hr'
 · rcases List.mem_append.1 hx with hx | hx
   · exact h1 x hx
   · exact h2 x hx
 · by_cases hlt : i < rows.length
   · rw [List.getElem?_append_left (by simpa using hlt), List.getElem?_map] at hi
     obtain ⟨r0, hr0, rfl⟩ := Option.map_eq_some_iff.1 hi
     rw [List.getElem?_map] at hj
     obtain ⟨x0, hx0, rfl⟩ := Option.map_eq_some_iff.1 hj
     have hjl : j < sz := by rw [← hz r0 (List.mem_of_getElem? hr0)]; exact (List.getElem?_eq_some_iff.1 hx0).1
     rw [List.getD_eq_getElem?_getD, List.getElem?_append_left (by rw [hxl]; exact idx_lt hlt hjl), ← List.getD_eq_getElem?_getD]
     exact ((hr i j r0 x0 hr0 hx0).kill k).step hs hA (fun q hq => hl q (SV.kill_ment hq))
   · rw [List.getElem?_append_right (by simpa using hlt), List.length_map] at hi
     obtain ⟨r', d, h3, h4, rfl⟩ := getElem?_SR hi hj
     have hge : rows.length ≤ i := by omega
     have hix : rows.length * sz + ((i - rows.length) * sz + j) = i * sz + j := by
       have : i * sz = rows.length * sz + (i - rows.length) * sz := by rw [← Nat.add_mul]; congr 1; omega
       omega
     rw [List.getD_eq_getElem?_getD, ← hix, ← hxl, List.getElem?_append_right (by omega), Nat.add_sub_cancel_left, ← List.getD_eq_getElem?_getD]
     exact .sh ((hrm _ _ r' d h3 h4).step hs hA)
theorem ownBlock_blk {v : Value} {a : Option Addr} {n c : Nat} (h : v = .slice a n c) : v.ownBlock = blk v := by subst h; cases a <;> rfl
theorem append_sound (h : Inv E.gpv w0 A0 σ a w loc) (hd : ∀ t, o.dst = some t → t < a.tmps.size) {c : Call} (ho : o.op = .call c) (hc : c.callee = .builtin .append) {K : SV → St → Prop} (hp : epop E o.dst (.call c) σ K) : EGives E w0 A0 w loc o a K Q := by
 simp only [epop, hc] at hp
 split at hp
 · rename_i s x t t' hargs htys
   obtain ⟨rfl, hp⟩ := hp
   have hca : c.args = #[s, x] := Array.ext' hargs
   have hct : c.argTypes = #[t', t'] := Array.ext' htys
   split at hp
   · rename_i i hi
     split at hp
     · rename_i e hk
       split at hp
       · rename_i ie hie
         have tk := E.ok e ie hie
         obtain ⟨d, τ, hp, h1, hxr, hsub, _⟩ := withSh_sound h hp
         split at hp
         · rename_i more
           obtain ⟨hall, hp⟩ := hp
           have hzm : ∀ r ∈ more, r.length = ie.size := fun r hr => by
             have := List.all_eq_true.1 hall r hr
             simp only [Bool.and_eq_true, decide_eq_true_eq] at this
             exact this.1
           have hrunx : ∀ {v' : Value} {w' : World}, (Builtin.append_ #[t', t'] o.type #[a.eval s, a.eval x]).run E.P w = .ok v' w' → (execOp a.eval o).run E.P w = .ok (.value v') w' := fun hr =>
             run_builtin ho hc w (fun consts => by
               rw [hca, hct]
               simp only [builtin, Sem.run_bind, List.map_toArray, List.map_cons, List.map_nil, hr, Result.andThen_ok, Sem.run_pure])
           have hsv := ev_ok h1 s
           split at hp
           · rename_i k es
             rw [es] at hsv
             obtain ⟨p, n, cp, hlk, hv⟩ := hsv.row_eq
             split at hp
             · rename_i e' sz rows hob
               obtain ⟨hkN, rfl, rfl, hby, hlen, hK⟩ := hp
               obtain ⟨xs, hz, hown, hsz, hm, hx1, hrr⟩ := rw_inv (h1.iO k _ hob)
               have hvk : a.eval s = loc k := by rw [hv, hlk]
               obtain ⟨v', w', news, hrun, ho', hg, hbl, hnl, hn1, hnr⟩ := run_append_gen hi hk hie o.type hown hxr hzm hby hlen (Nat.zero_le _)
               have hob2 : (loc k).ownBlock = blk (loc k) := ownBlock_blk hlk
               obtain ⟨a2, c2, hv2⟩ := ownsRow_form ho'
               have hob3 : v'.ownBlock = blk v' := ownBlock_blk hv2
               have hsame : ∀ b, b < w.heap.size → blk (loc k) ≠ some b → w'.heap[b]? = w.heap[b]? := fun b hb hne => hg.block b hb (fun e => hne (by rw [← hob2, ← e]))
               have hinv := h1.remake k (below_grown h1.iB hg (fun b hb => (h1.iF k _ b hob (by rw [← hob2]; exact hb)).1.1)) hg.size (fun b hb hne => hsame b hb (hne _ hob)) v' (.rw e' ie.size ((rows.map fun r => r.map (SV.kill k)) ++ SR more)) (fun b hb => by
                   have := ownsRow_lt ho' hb
                   rcases hbl with hbl | hbl
                   · have hbk : blk (loc k) = some b := by rw [← hob2, ← hbl, hob3]; exact hb
                     exact ⟨(h1.iF k _ b hob hbk).1, this.2, .inr ⟨_, hob, hbk⟩⟩
                   · rw [hob3, hb] at hbl; injection hbl with hbl; exact ⟨h1.fresh (by omega), this.2, .inl (by omega)⟩) (fun A' loc' hA hl1 hl2 =>
                   ObAt.appended hz hzm hsz hlen hown.1 ho' hx1 hn1 hrr hnr (fun b hb hn => hsame b hb (fun e => hn (.inr ⟨k, _, hob, e⟩))) hA hl1)
               refine EGives.run hd (Trk.set _ _ _ (fun _ => hkN)) (hrunx (by rw [hvk]; exact hrun)) hinv ?_ hK
               rw [hv2]
               exact .row (by simp [hv2])
             · exact hp.elim
           · rename_i es
             rw [es] at hsv
             have hv := hsv.val_eq
             split at hp
             · rename_i k hdst
               obtain ⟨hby, hlen, hK⟩ := hp
               have hown : w.ownsRow 0 e ie.size (.slice none 0 0) 0 [] := ⟨by simp, .inl ⟨rfl, rfl⟩⟩
               obtain ⟨v', w', news, hrun, ho', hg, hbl, hnl, hn1, hnr⟩ := run_append_gen hi hk hie o.type hown hxr hzm (by simpa using hby) (by simpa using hlen) (Nat.zero_le _)
               obtain ⟨a2, c2, hv2⟩ := ownsRow_form ho'
               have hob3 : v'.ownBlock = blk v' := ownBlock_blk hv2
               have hsame : ∀ b, b < w.heap.size → w'.heap[b]? = w.heap[b]? := fun b hb => hg.block b hb (by simp [Value.ownBlock])
               have hinv := h1.remake k (below_grown h1.iB hg (fun b hb => by simp [Value.ownBlock] at hb)) hg.size (fun b hb _ => hsame b hb) v' (.rw e ie.size (SR more)) (fun b hb => by
                   have := ownsRow_lt ho' hb
                   rcases hbl with hbl | hbl
                   · rw [hob3, hb] at hbl; simp [Value.ownBlock] at hbl
                   · rw [hob3, hb] at hbl; injection hbl with hbl; exact ⟨h1.fresh (by omega), this.2, .inl (by omega)⟩) (fun A' loc' hA hl1 hl2 => by
                   have := ObAt.appended (w := w) (w' := w') (A := fun b => A0 b ∨ act τ loc b) (A' := A') (loc := loc) (loc' := loc') (k := k) (rows := []) (more := more) (xs := []) (news := news) (fun r hr => by simp at hr) hzm tk.pos (by simpa using hlen) (by simp) (by simpa using ho') (fun x hx => by simp at hx) hn1 (fun i j r x hi => by simp at hi) hnr (fun b hb hn => hsame b hb) hA hl1
                   simpa using this)
               refine EGives.run hd (Trk.dst hd hdst _ _) (hrunx (by rw [hv]; exact hrun)) hinv ?_ hK
               rw [hv2]
               exact .row (by simp [hv2])
             · exact hp.elim
           · exact hp.elim
         · exact hp.elim
       · exact hp.elim
     · exact hp.elim
   · exact hp.elim
 · exact hp.elim
theorem freeze_sub {k : Nat} {ds : List PV} {j : Nat} {ob' : Ob} (h : (σ.freeze k ds).o j = some ob') : j ≠ k ∧ ∃ ob, σ.o j = some ob ∧ ob' = ob.freeze k ds := by
 simp only [St.freeze] at h
 split at h
 · cases h
 · rename_i hne
   obtain ⟨ob, h1, h2⟩ := Option.map_eq_some_iff.1 h
   exact ⟨hne, ob, h1, h2.symm⟩
theorem Inv.freeze (h : Inv E.gpv w0 A0 σ a w loc) {k : Nat} {cs : List SV} (hk : σ.o k = some (.box cs)) (h0 : 0 < cs.length) (hsh : cs.all SV.isSh = true) :
   Inv E.gpv w0 A0 (σ.freeze k (cs.map SV.unsh)) a w loc ∧ R w (fun b => A0 b ∨ act (σ.freeze k (cs.map SV.unsh)) loc b) (loc k) (.ea (cs.map SV.unsh)) ∧
     (∀ v x, RS w (fun b => A0 b ∨ act σ loc b) loc v x → RS w (fun b => A0 b ∨ act (σ.freeze k (cs.map SV.unsh)) loc b) loc v (x.freeze k (cs.map SV.unsh))) ∧ ∀ b, act (σ.freeze k (cs.map SV.unsh)) loc b → act σ loc b := by
 have hsub : ∀ j ob', (σ.freeze k (cs.map SV.unsh)).o j = some ob' → ∃ ob, σ.o j = some ob := fun j ob' hj => by
   obtain ⟨_, ob, h1, _⟩ := freeze_sub hj
   exact ⟨ob, h1⟩
 have hact : ∀ b, (A0 b ∨ act (σ.freeze k (cs.map SV.unsh)) loc b) → (A0 b ∨ act σ loc b) := by
   rintro b (hb | ⟨j, ob', hj, hb⟩)
   · exact .inl hb
   · obtain ⟨ob, h1⟩ := hsub j ob' hj
     exact .inr ⟨j, ob, h1, hb⟩
 obtain ⟨b, e, xs, hv, hg, hn, hx1, hxr⟩ := box_inv (h.iO k _ hk)
 have hno : ¬ (A0 b ∨ act (σ.freeze k (cs.map SV.unsh)) loc b) := not_act h hk (by simp [St.freeze]) hsub (by rw [hv]; rfl)
 have hread : R w (fun b => A0 b ∨ act (σ.freeze k (cs.map SV.unsh)) loc b) (.pointer (some ⟨b, 0, none⟩)) (.ea (cs.map SV.unsh)) := by
   refine .ea (fun j => xs.getD j undef) (by simpa using h0) hno (fun j hj => ?_) (fun j hj => hx1 j (by simp at hj; omega)) (fun j d hd => ?_)
   · rw [Nat.zero_add]; exact cell_of_heap hg (by simp at hj; omega)
   · rw [List.getElem?_map] at hd
     obtain ⟨y, hy, rfl⟩ := Option.map_eq_some_iff.1 hd
     exact ((hxr j y hy).ofSh (List.all_eq_true.1 hsh y (List.mem_of_getElem? hy))).step (fun _ _ _ => rfl) (fun b _ => hact b)
 have hone : ∀ v x, RS w (fun b => A0 b ∨ act σ loc b) loc v x → RS w (fun b => A0 b ∨ act (σ.freeze k (cs.map SV.unsh)) loc b) loc v (x.freeze k (cs.map SV.unsh)) := by
   intro v x hx
   cases x with
   | bp q off =>
     simp only [SV.freeze]
     split
     · rename_i e; subst e
       obtain ⟨b', hl, rfl⟩ := hx.bp_eq
       rw [hv] at hl
       injection hl with hl; injection hl with hl; injection hl with hl
       subst hl
       split
       · rename_i hlt
         have := hread.ea_drop hlt
         rw [Nat.zero_add] at this
         exact .sh this
       · exact .sh (.any _)
     · exact hx.retell hact
   | _ => exact hx.retell hact
 refine ⟨h.retell _ (fun t v hx => hone v _ hx) hsub (fun j ob ob' hj hj0 hob => ?_), by rw [hv]; exact hread, hone, fun b hb => by
   obtain ⟨j, ob', hj, hb⟩ := hb
   obtain ⟨ob, h1⟩ := hsub j ob' hj
   exact ⟨j, ob, h1, hb⟩⟩
 obtain ⟨hne, ob1, h1, rfl⟩ := freeze_sub hj
 rw [hj0] at h1
 injection h1 with h1
 subst h1
 cases ob with
 | box cs =>
   obtain ⟨b, e1, xs, hv, hg, hn, h1, hr⟩ := box_inv hob
   rw [hv]
   refine .box hg (by simpa using hn) h1 (fun q x hx => ?_)
   simp only [List.getElem?_map, Option.map_eq_some_iff] at hx
   obtain ⟨y, hy, rfl⟩ := hx
   exact hone _ _ (hr q y hy)
 | rw e2 sz2 rows2 =>
   obtain ⟨xs, hz, hown, hsz, hm, h1, hr⟩ := rw_inv hob
   refine .rw xs (fun r hr' => ?_) (by simpa using hown) hsz (by simpa using hm) h1 (fun i q r x hi hx => ?_)
   · obtain ⟨r0, hq, rfl⟩ := List.mem_map.1 hr'
     simpa using hz r0 hq
   · simp only [List.getElem?_map, Option.map_eq_some_iff] at hi
     obtain ⟨r0, hq, rfl⟩ := hi
     simp only [List.getElem?_map, Option.map_eq_some_iff] at hx
     obtain ⟨y, hy, rfl⟩ := hx
     exact hone _ _ (hr i q r0 y hq hy)
 | mp ds => exact hob.step (fun _ _ _ => rfl) (fun b _ => hact b) (fun _ h => h.elim) (fun _ _ => rfl)
 | it cur rem => exact hob.step (fun _ _ _ => rfl) (fun b _ => hact b) (fun _ h => h.elim) (fun _ _ => rfl)
theorem capsL_sound {A0 : Nat → Prop} : ∀ (l : List SV) (vs : List Value) (f : SV → SV) (σ : St) (K : List PV → St → Prop), Inv E.gpv w0 A0 σ a w loc → l.length = vs.length →
   (∀ (j : Nat) (x : SV) (v : Value), l[j]? = some x → vs[j]? = some v → RS w (fun b => A0 b ∨ act σ loc b) loc v (f x)) → capsL l f σ K →
   ∃ ds τ, K ds τ ∧ Inv E.gpv w0 A0 τ a w loc ∧ ds.length = vs.length ∧ (∀ (j : Nat) (d : PV) (v : Value), ds[j]? = some d → vs[j]? = some v → R w (fun b => A0 b ∨ act τ loc b) v d) ∧ ∀ b, act τ loc b → act σ loc b
 | [], vs, f, σ, K, h, hl, _, hp => ⟨[], σ, hp, h, by simpa using hl, fun j d v h => by simp at h, fun _ hb => hb⟩
 | x :: xs, [], f, σ, K, h, hl, _, _ => by simp at hl
 | x :: xs, v :: vs, f, σ, K, h, hl, hr, hp => by
   simp only [capsL] at hp
   have h0 := hr 0 _ _ rfl rfl
   split at hp
   · rename_i ds ex
     obtain ⟨l, τ, hK, h1, hll, hlr, hsub⟩ := capsL_sound xs vs f σ _ h (by simpa using hl) (fun j x' v' h1 h2 => hr (j + 1) x' v' (by simpa using h1) (by simpa using h2)) hp
     refine ⟨_, τ, hK, h1, by simp [hll], fun j d v' h1 h2 => ?_, hsub⟩
     cases j with
     | zero => simp at h1 h2; subst h1; subst h2; rw [ex] at h0; exact h0.sh_inv.step (fun _ _ _ => rfl) (fun b _ => Or.imp_right (hsub b))
     | succ j => exact hlr j d v' (by simpa using h1) (by simpa using h2)
   · rename_i k ex
     split at hp
     · rename_i cs hob
       obtain ⟨hpos, hsh, hp⟩ := hp
       obtain ⟨hinv, hR, hone, hact⟩ := h.freeze hob hpos hsh
       obtain ⟨l, τ, hK, h1, hll, hlr, hsub⟩ := capsL_sound xs vs _ _ _ hinv (by simpa using hl) (fun j x' v' h1 h2 => hone _ _ (hr (j + 1) x' v' (by simpa using h1) (by simpa using h2))) hp
       refine ⟨_, τ, hK, h1, by simp [hll], fun j d v' h1 h2 => ?_, fun b hb => hact b (hsub b hb)⟩
       cases j with
       | zero =>
         simp at h1 h2; subst h1; subst h2
         rw [ex] at h0
         obtain ⟨b, hlk, hv⟩ := h0.bp_eq
         rw [hv, ← hlk]
         exact hR.step (fun _ _ _ => rfl) (fun b _ => Or.imp_right (hsub b))
       | succ j => exact hlr j d v' (by simpa using h1) (by simpa using h2)
     · exact hp.elim
   · exact hp.elim
theorem makeFunc_sound (h : Inv E.gpv w0 A0 σ a w loc) (hd : ∀ t, o.dst = some t → t < a.tmps.size) {g : FuncId} {first caps : Array Operand} (ho : o.op = .makeFunc (.func g) first caps) {K : SV → St → Prop} (hp : epop E o.dst (.makeFunc (.func g) first caps) σ K) : EGives E w0 A0 w loc o a K Q := by
 simp only [epop] at hp
 obtain ⟨hf0, hp⟩ := hp
 obtain rfl : first = #[] := Array.size_eq_zero_iff.1 hf0
 have hrun : (execOp a.eval o).run E.P w = .ok (.value (.func (.func g) #[] (caps.map a.eval))) w := by
   simp [execOp, ho, Instr.makeFunc]
 obtain ⟨ds, τ, hK, h1, hl, hr, hsub⟩ := capsL_sound (caps.toList.map (σ.ev E)) (caps.toList.map a.eval) id σ _ h (by simp) (fun j x v h1 h2 => by
   rw [List.getElem?_map] at h1 h2
   obtain ⟨y, hy, rfl⟩ := Option.map_eq_some_iff.1 h1
   rw [hy] at h2
   injection h2 with h2
   subst h2
   exact ev_ok h y) hp
 refine EGives.run hd (Trk.refl _ _) hrun h1 (.sh (.fn (by simpa using hl.symm) (fun j d hj => ?_))) hK
 have hlt := (List.getElem?_eq_some_iff.1 hj).1
 have hc : (caps.toList.map a.eval)[j]? = some ((caps.map a.eval).getD j undef) := by
   have : j < caps.size := by simp at hl; omega
   simp [Array.getD, this]
 exact hr j d _ hj hc
theorem shareCells_sound : ∀ (cs : List SV) (σ : St) (K : St → Prop), Inv E.gpv w0 A0 σ a w loc → shareCells cs σ K → ∃ τ, K τ ∧ Inv E.gpv w0 A0 τ a w loc
 | [], σ, K, h, hp => ⟨σ, hp, h⟩
 | x :: cs, σ, K, h, hp => by
   cases x with
   | row k =>
     simp only [shareCells] at hp
     split at hp
     · rename_i e sz rows hk
       exact shareCells_sound cs _ K (h.share hk hp.1).1 hp.2
     · exact hp.elim
   | _ => exact shareCells_sound cs σ K h hp
theorem loadSh_sound {T : Nat} {x : Operand} {K : SV → St → Prop} (h : Inv E.gpv w0 A0 σ a w loc) (hp : loadSh E T x σ K) : ∃ τ, Inv E.gpv w0 A0 τ a w loc ∧ ppop E (.load T x) τ fun y => K y τ := by
 unfold loadSh at hp
 split at hp
 · split at hp
   · obtain ⟨τ, h1, h2⟩ := shareCells_sound _ _ _ h hp
     exact ⟨τ, h2, h1⟩
   · exact ⟨σ, h, hp⟩
 · exact ⟨σ, h, hp⟩
theorem epop_sound (h : Inv E.gpv w0 A0 σ a w loc) (hd : ∀ t, o.dst = some t → t < a.tmps.size) {K : SV → St → Prop} (hp : epop E o.dst o.op σ K) : EGives E w0 A0 w loc o a K Q := by
 generalize ho : o.op = op at hp
 have pure : ppop E op σ (fun x => K x σ) → EGives E w0 A0 w loc o a K Q := fun hp => EGives.pure h hd (by rw [ho]; exact hp)
 cases op with
 | alloc T => exact alloc_sound h hd ho hp
 | box T x => exact box_sound h hd ho hp
 | store T p x => exact store_sound h hd ho hp
 | buildSlice T len parts => exact buildSlice_sound h hd ho hp
 | load T x =>
   obtain ⟨τ, h1, h2⟩ := loadSh_sound h (by simpa only [epop] using hp)
   exact EGives.pure h1 hd (by rw [ho]; exact h2)
 | makeSlice T l c => exact makeSlice_sound h hd ho hp
 | makeMap T r =>
   cases r with
   | none => exact makeMap_sound h hd ho hp
   | some r => exact pure hp
 | mapUpdate T m k v => exact mapUpdate_sound h hd ho hp
 | range T x => exact range_sound h hd ho hp
 | next x s => exact next_sound h hd ho hp
 | entry x => exact entry_sound h hd ho hp
 | makeFunc fn first caps =>
   cases fn with
   | func g => exact makeFunc_sound h hd ho hp
   | _ => exact pure hp
 | build T parts =>
   simp only [epop] at hp
   obtain ⟨v, d, τ, hr, hK, h1, hv, _⟩ := build_sound h ho hp
   exact EGives.run hd (Trk.refl _ _) hr h1 (.sh hv) hK
 | slice T x lo hi mx =>
   cases mx with
   | none =>
     simp only [epop] at hp
     obtain ⟨v, d, τ, hr, hK, h1, hv, _⟩ := slice_sound h ho hp
     exact EGives.run hd (Trk.refl _ _) hr h1 (.sh hv) hK
   | some m => exact pure hp
 | call c =>
   cases hc : c.callee with
   | value f =>
     simp only [epop, hc] at hp
     split at hp
     · rename_i g caps hf
       intro next hn
       exact call_sound (q := false) (K := fun d τ => K (.sh d) τ) h ho hc hf hp (fun d τ v w' hK _ h1 hb hv => hn (.sh d) τ _ w' loc hK ((h1.grow hb).put hd (.sh hv)) (put_size _ _ _) (Trk.refl _ _))
     · exact hp.elim
   | invoke r m => simp only [epop, hc] at hp; exact pure hp
   | builtin b =>
     cases b with
     | append => exact append_sound h hd ho hc hp
     | delete => exact delete_sound h hd ho hc hp
     | _ => simp only [epop, hc] at hp; exact pure hp
 | _ => exact pure hp
end
end Go.Pw
set_option linter.unusedVariables false
set_option linter.unusedSimpArgs false
namespace Go.Pw
open Go.RowKit
section
variable {E : Env} {σ τ : St}
theorem withShs_ex : ∀ (xs : List Operand) (σ : St) (K : List PV → St → Prop), withShs E true σ xs K → ∃ ds, K ds σ ∧ ∀ K', K' ds σ → withShs E true σ xs K'
 | [], σ, K, h => ⟨[], h, fun K' h' => h'⟩
 | x :: xs, σ, K, h => by
   simp only [withShs] at h ⊢
   unfold withSh at h
   split at h
   · rename_i ex
     obtain ⟨ds, hK, hall⟩ := withShs_ex xs σ _ h
     exact ⟨_ :: ds, hK, fun K' h' => by rw [ex]; exact hall _ h'⟩
   · rename_i ex
     obtain ⟨ds, hK, hall⟩ := withShs_ex xs σ _ h
     exact ⟨_ :: ds, hK, fun K' h' => by rw [ex]; exact hall _ h'⟩
   · rename_i d hne hne2 ex
     obtain ⟨ds, hK, hall⟩ := withShs_ex xs σ _ h
     refine ⟨d.nz :: ds, hK, fun K' h' => ?_⟩
     rw [ex]
     unfold withSh
     split
     · rename_i e; simp at e; exact (hne e).elim
     · rename_i e; simp at e; exact (hne2 e).elim
     · rename_i d' _ _ e; injection e with e; subst e; exact hall _ h'
     · simp_all
     · simp_all
     · simp_all
   · rename_i k ex
     split at h
     · exact absurd h.1 (by simp)
     · exact h.elim
   · rename_i pre k ex
     split at h
     · exact absurd h.1 (by simp)
     · exact h.elim
   · exact h.elim
theorem withSh_ex {x : SV} {K : PV → St → Prop} (h : withSh true σ x K) : ∃ d, K d σ ∧ ∀ K', K' d σ → withSh true σ x K' := by
 unfold withSh at h
 split at h
 · exact ⟨_, h, fun K' h' => h'⟩
 · exact ⟨_, h, fun K' h' => h'⟩
 · rename_i d hne hne2
   refine ⟨d.nz, h, fun K' h' => ?_⟩
   unfold withSh
   split
   · rename_i e; simp at e; exact (hne e).elim
   · rename_i e; simp at e; exact (hne2 e).elim
   · rename_i d' _ _ e; injection e with e; subst e; exact h'
   · simp_all
   · simp_all
   · simp_all
 · split at h
   · exact absurd h.1 (by simp)
   · exact h.elim
 · split at h
   · exact absurd h.1 (by simp)
   · exact h.elim
 · exact h.elim
theorem buildC_ex {place : Nat → Option (Nat × Nat)} : ∀ (ps : List (Nat × PV)) (cs : List PV) (K : List PV → Prop), buildC place cs ps K → ∃ r, K r ∧ ∀ K', K' r → buildC place cs ps K'
 | [], cs, K, h => ⟨cs, h, fun _ h' => h'⟩
 | (i, d) :: ps, cs, K, h => by
   simp only [buildC] at h
   split at h
   · rename_i off size ys hp hy
     obtain ⟨h1, h2, h3, h4⟩ := h
     obtain ⟨r, hr, hall⟩ := buildC_ex ps _ _ h4
     refine ⟨r, hr, fun K' h' => ?_⟩
     simp only [buildC, hp, hy]
     exact ⟨h1, h2, h3, hall K' h'⟩
   · exact h.elim
theorem buildP_ex {T : Nat} {ps : List (Nat × Operand)} {K : PV → St → Prop} (h : buildP E true σ T ps K) : ∃ d, K d σ ∧ ∀ K', K' d σ → buildP E true σ T ps K' := by
 unfold buildP at h ⊢
 split at h
 · rename_i i hi
   obtain ⟨h1, h2⟩ := h
   obtain ⟨ds, h3, hall⟩ := withShs_ex _ _ _ h2
   obtain ⟨r, h4, hall2⟩ := buildC_ex _ _ _ h3
   exact ⟨_, h4, fun K' h' => ⟨h1, hall _ (hall2 _ h')⟩⟩
 · exact h.elim
theorem sliceP_ex {T : Nat} {x : Operand} {lo hi : Option Operand} {K : PV → St → Prop} (h : sliceP E true σ T x lo hi K) : ∃ d, K d σ ∧ ∀ K', K' d σ → sliceP E true σ T x lo hi K' := by
 unfold sliceP at h ⊢
 split at h
 · split at h
   · rename_i hk
     obtain ⟨d, h1, hall⟩ := withSh_ex h
     split at h1
     · rename_i rows
       obtain ⟨h2, h3⟩ := h1
       split at h3
       · rename_i e1 e2
         exact ⟨_, h3, fun K' h' => hall _ ⟨h2, by simp only [e1, e2]; exact h'⟩⟩
       · rename_i k l e1 e2
         exact ⟨_, h3.2.2, fun K' h' => hall _ ⟨h2, by simp only [e1, e2]; exact ⟨h3.1, h3.2.1, h'⟩⟩⟩
       · rename_i k l e1 e2
         exact ⟨_, h3.2.2, fun K' h' => hall _ ⟨h2, by simp only [e1, e2]; exact ⟨h3.1, h3.2.1, h'⟩⟩⟩
       · rename_i k l k' u e1 e2
         exact ⟨_, h3.2.2.2, fun K' h' => hall _ ⟨h2, by simp only [e1, e2]; exact ⟨h3.1, h3.2.1, h3.2.2.1, h'⟩⟩⟩
       · exact h3.elim
     · exact h1.elim
   · exact h.elim
 · exact h.elim
theorem binP_ex {op : BinOp} {k : IntKind} {m n : Int} {K : Value → Prop} (h : binP op k m n K) : ∃ v, K v ∧ ∀ K' : Value → Prop, K' v → binP op k m n K' := by
 cases op <;> simp only [binP] at h ⊢ <;> first | exact h.elim | exact ⟨_, h.2, fun K' h' => ⟨h.1, h'⟩⟩ | exact ⟨_, h, fun K' h' => h'⟩
theorem binS_ex {op : BinOp} {k : IntKind} {m n : Int} {K : Value → Prop} (h : binS op k m n K) : ∃ v, K v ∧ ∀ K' : Value → Prop, K' v → binS op k m n K' := by
 cases op <;> simp only [binS] at h ⊢ <;> first | exact h.elim | exact ⟨_, h.2, fun K' h' => ⟨h.1, h'⟩⟩
theorem litP_ex {T len : Nat} {ps : List (Nat × Operand)} {K : PV → Prop} (h : litP E σ T len ps K) : ∃ d, K d ∧ ∀ K' : PV → Prop, K' d → litP E σ T len ps K' := by
 unfold litP at h ⊢
 split at h
 · split at h
   · split at h
     · obtain ⟨h1, h2, h3⟩ := h
       obtain ⟨ds, ⟨h4, h5⟩, hall⟩ := withShs_ex _ _ _ h3
       exact ⟨_, h5, fun K' h' => ⟨h1, h2, hall _ ⟨h4, h'⟩⟩⟩
     · exact h.elim
   · exact h.elim
 · exact h.elim
theorem addP_ex {as : List Operand} {ts : List Nat} {K : PV → Prop} (h : addP E σ as ts K) : ∃ d, K d ∧ ∀ K' : PV → Prop, K' d → addP E σ as ts K' := by
 unfold addP at h ⊢
 split at h
 · obtain ⟨h0, h⟩ := h
   split at h
   · split at h
     · split at h
       · split at h
         · rename_i es
           obtain ⟨d, h1, hall⟩ := withSh_ex h
           split at h1
           · rename_i more
             obtain ⟨h2, h3, h4, h5⟩ := h1
             exact ⟨_, h5, fun K' h' => ⟨h0, hall _ ⟨h2, h3, h4, h'⟩⟩⟩
           · exact h1.elim
         · exact h.elim
       · exact h.elim
     · exact h.elim
   · exact h.elim
 · exact h.elim
theorem mkP_ex {t : Option TI} {l c : SV} {K : PV → Prop} (h : mkP E t l c K) : ∃ d, K d ∧ ∀ K' : PV → Prop, K' d → mkP E t l c K' := by
 unfold mkP at h ⊢
 split at h
 · split at h
   · split at h
     · split at h
       · exact ⟨_, h.2.2.2.2, fun K' h' => ⟨h.1, h.2.1, h.2.2.1, h.2.2.2.1, h'⟩⟩
       · exact h.elim
     · exact h.elim
   · exact h.elim
 · exact h.elim
theorem capsQ_ex : ∀ {l : List SV} {K : List PV → Prop}, capsQ l K → ∃ d, K d ∧ ∀ K' : List PV → Prop, K' d → capsQ l K'
 | [], K, h => ⟨[], h, fun _ h' => h'⟩
 | x :: xs, K, h => by
   simp only [capsQ] at h
   split at h
   · obtain ⟨d, h1, h2⟩ := capsQ_ex h
     exact ⟨_, h1, fun K' h' => h2 _ h'⟩
   · exact h.elim
theorem ppop_ex {op : Op} {K : SV → Prop} (h : ppop E op σ K) : ∃ x, K x ∧ ∀ K' : SV → Prop, K' x → ppop E op σ K' := by
 cases op with
 | move x => exact ⟨_, h, fun K' h' => h'⟩
 | assign x => exact ⟨_, h, fun K' h' => h'⟩
 | pick c x y =>
   simp only [ppop] at h ⊢
   split at h
   · rename_i t e
     cases t with
     | true => exact ⟨_, h.1 rfl, fun K' h' => ⟨fun _ => h', fun e => by cases e⟩⟩
     | false => exact ⟨_, h.2 rfl, fun K' h' => ⟨fun e => by (cases e), fun _ => h'⟩⟩
   · exact h.elim
 | load T x =>
   simp only [ppop] at h ⊢
   split at h
   · split at h
     · split at h
       · split at h
         · rename_i hag
           obtain ⟨h1, h⟩ := h
           split at h
           · rename_i x hx
             exact ⟨_, h, fun K' h' => by rw [if_pos hag]; exact ⟨h1, h'⟩⟩
           · exact h.elim
         · rename_i hag
           split at h
           · exact ⟨_, h, fun K' h' => by rw [if_neg hag]; exact h'⟩
           · exact h.elim
       · exact h.elim
     · split at h
       · obtain ⟨h0, h⟩ := h
         split at h
         · split at h
           · rename_i hag
             obtain ⟨h1, h2, h3⟩ := h
             exact ⟨_, h3, fun K' h' => ⟨h0, by rw [if_pos hag]; exact ⟨h1, h2, h'⟩⟩⟩
           · rename_i hag
             split at h
             · exact ⟨_, h, fun K' h' => ⟨h0, by rw [if_neg hag]; exact h'⟩⟩
             · exact h.elim
         · exact h.elim
       · exact h.elim
     · split at h
       · rename_i hag
         exact ⟨_, h.2, fun K' h' => by rw [if_pos hag]; exact ⟨h.1, h'⟩⟩
       · rename_i hag
         split at h
         · exact ⟨_, h, fun K' h' => by rw [if_neg hag]; exact h'⟩
         · exact h.elim
     · exact h.elim
   · exact h.elim
 | nilCheck x =>
   simp only [ppop] at h ⊢
   split at h
   · exact ⟨_, h, fun K' h' => h'⟩
   · exact ⟨_, h, fun K' h' => h'⟩
   · exact ⟨_, h, fun K' h' => h'⟩
   · exact ⟨_, h, fun K' h' => h'⟩
   · exact h.elim
 | binOp op T x y T2 =>
   simp only [ppop] at h ⊢
   split at h
   · split at h
     · rename_i hs
       obtain ⟨v, h1, h2⟩ := binS_ex h
       exact ⟨_, h1, fun K' h' => by rw [if_pos hs]; exact h2 _ h'⟩
     · rename_i hs
       obtain ⟨h0, h⟩ := h
       obtain ⟨v, h1, h2⟩ := binP_ex h
       exact ⟨_, h1, fun K' h' => by rw [if_neg hs]; exact ⟨h0, h2 _ h'⟩⟩
   · obtain ⟨h0, h⟩ := h
     split at h
     · exact ⟨_, h, fun K' h' => ⟨h0, h'⟩⟩
     · exact ⟨_, h, fun K' h' => ⟨h0, h'⟩⟩
     · exact h.elim
   · exact h.elim
 | unOp op T x =>
   simp only [ppop] at h ⊢
   split at h
   · exact ⟨_, h, fun K' h' => h'⟩
   · exact ⟨_, h, fun K' h' => h'⟩
   · exact h.elim
 | convert s d x =>
   simp only [ppop] at h ⊢
   split at h
   · obtain ⟨k, h1, h2, h3⟩ := h
     exact ⟨_, h3, fun K' h' => ⟨k, h1, h2, h'⟩⟩
   · exact h.elim
 | fieldAddr T x f =>
   simp only [ppop] at h ⊢
   split at h
   · split at h
     · split at h
       · obtain ⟨h0, h⟩ := h
         split at h
         · exact ⟨_, h, fun K' h' => ⟨h0, h'⟩⟩
         · exact ⟨_, h, fun K' h' => ⟨h0, h'⟩⟩
         · exact ⟨_, h.2, fun K' h' => ⟨h0, h.1, h'⟩⟩
         · exact h.elim
       · exact h.elim
     · exact h.elim
   · exact h.elim
 | indexAddr T x ix =>
   simp only [ppop] at h ⊢
   split at h
   · split at h
     · split at h
       · split at h
         · split at h
           · obtain ⟨h0, r, h1, h2, h3⟩ := h
             exact ⟨_, h3, fun K' h' => ⟨h0, r, h1, h2, h'⟩⟩
           · split at h
             · obtain ⟨h0, h1, h2, h3⟩ := h
               exact ⟨_, h3, fun K' h' => ⟨h0, h1, h2, h'⟩⟩
             · exact h.elim
           · obtain ⟨h0, h1, h2, h3⟩ := h
             exact ⟨_, h3, fun K' h' => ⟨h0, h1, h2, h'⟩⟩
           · exact h.elim
         · exact h.elim
       · split at h
         · obtain ⟨h0, h1, h⟩ := h
           split at h
           · exact ⟨_, h, fun K' h' => ⟨h0, h1, h'⟩⟩
           · exact ⟨_, h.2, fun K' h' => ⟨h0, h1, h.1, h'⟩⟩
           · exact h.elim
         · exact h.elim
       · exact h.elim
     · exact h.elim
   · exact h.elim
 | index T x ix =>
   simp only [ppop] at h ⊢
   split at h
   · split at h
     · split at h
       · obtain ⟨h0, h1, h2, h⟩ := h
         split at h
         · rename_i hag
           exact ⟨_, h, fun K' h' => ⟨h0, h1, h2, by rw [if_pos hag]; exact h'⟩⟩
         · rename_i hag
           split at h
           · rename_i d hd
             exact ⟨_, h, fun K' h' => ⟨h0, h1, h2, by rw [if_neg hag]; exact h'⟩⟩
           · exact h.elim
       · exact h.elim
     · obtain ⟨h0, h1, b, hb, hK⟩ := h
       exact ⟨_, hK, fun K' h' => ⟨h0, h1, b, hb, h'⟩⟩
     · exact h.elim
   · exact h.elim
 | field T x f =>
   simp only [ppop] at h ⊢
   split at h
   · split at h
     · split at h
       · split at h
         · split at h
           · obtain ⟨h0, h⟩ := h
             split at h
             · rename_i hag
               exact ⟨_, h, fun K' h' => ⟨h0, by rw [if_pos hag]; exact h'⟩⟩
             · rename_i hag
               split at h
               · exact ⟨_, h, fun K' h' => ⟨h0, by rw [if_neg hag]; exact h'⟩⟩
               · exact h.elim
           · obtain ⟨h0, h1, h⟩ := h
             split at h
             · rename_i ho
               exact ⟨_, h, fun K' h' => ⟨h0, h1, by rw [if_pos ho]; exact h'⟩⟩
             · rename_i ho
               split at h
               · exact ⟨_, h, fun K' h' => ⟨h0, h1, by rw [if_neg ho]; exact h'⟩⟩
               · exact h.elim
           · exact h.elim
         · exact h.elim
       · exact h.elim
     · exact h.elim
   · exact h.elim
 | lookup T x ix c =>
   simp only [ppop] at h ⊢
   obtain ⟨h0, kt, et, ie, h1, h2, h3, h4, h⟩ := h
   split at h
   · rename_i e1 e2
     exact ⟨_, h, fun K' h' => ⟨h0, kt, et, ie, h1, h2, h3, h4, h'⟩⟩
   · exact h.elim
 | buildSlice T len parts =>
   simp only [ppop] at h ⊢
   obtain ⟨d, h1, h2⟩ := litP_ex h
   exact ⟨_, h1, fun K' h' => h2 _ h'⟩
 | makeSlice T l c =>
   simp only [ppop] at h ⊢
   obtain ⟨d, h1, h2⟩ := mkP_ex h
   exact ⟨_, h1, fun K' h' => h2 _ h'⟩
 | makeFunc fn first caps =>
   cases fn with
   | func g =>
     simp only [ppop] at h ⊢
     obtain ⟨d, h1, h2⟩ := capsQ_ex h.2
     exact ⟨_, h1, fun K' h' => ⟨h.1, h2 _ h'⟩⟩
   | _ => simp only [ppop] at h
 | extract x i =>
   simp only [ppop] at h ⊢
   split at h
   · split at h
     · exact ⟨_, h, fun K' h' => h'⟩
     · exact h.elim
   · exact h.elim
 | build T parts =>
   simp only [ppop] at h ⊢
   obtain ⟨d, h1, h2⟩ := buildP_ex h
   exact ⟨_, h1, fun K' h' => h2 _ h'⟩
 | slice T x lo hi mx =>
   cases mx with
   | none =>
     simp only [ppop] at h ⊢
     obtain ⟨d, h1, h2⟩ := sliceP_ex h
     exact ⟨_, h1, fun K' h' => h2 _ h'⟩
   | some m => simp only [ppop] at h
 | call c =>
   cases hc : c.callee with
   | value f =>
     simp only [ppop, hc] at h ⊢
     split at h
     · obtain ⟨ds, ⟨d, h1, h2⟩, hall⟩ := withShs_ex _ _ _ h
       exact ⟨_, h2, fun K' h' => hall _ ⟨d, h1, h'⟩⟩
     · exact h.elim
   | invoke r m => simp only [ppop, hc] at h
   | builtin b =>
     cases b with
     | len =>
       simp only [ppop, hc] at h ⊢
       split at h
       · split at h
         · split at h
           · split at h
             · exact ⟨_, h, fun K' h' => h'⟩
             · exact ⟨_, h, fun K' h' => h'⟩
             · split at h
               · exact ⟨_, h, fun K' h' => h'⟩
               · exact h.elim
             · exact ⟨_, h, fun K' h' => h'⟩
             · exact ⟨_, h, fun K' h' => h'⟩
             · exact h.elim
           · exact ⟨_, h, fun K' h' => h'⟩
           · split at h
             · exact ⟨_, h.2, fun K' h' => ⟨h.1, h'⟩⟩
             · split at h
               · rename_i hm
                 exact ⟨_, h.2, fun K' h' => ⟨h.1, h'⟩⟩
               · exact h.elim
           · exact h.elim
         · exact h.elim
       · exact h.elim
     | append =>
       simp only [ppop, hc] at h ⊢
       obtain ⟨d, h1, h2⟩ := addP_ex h
       exact ⟨_, h1, fun K' h' => h2 _ h'⟩
     | max =>
       simp only [ppop, hc] at h ⊢
       split at h
       · exact ⟨_, h.2, fun K' h' => ⟨h.1, h'⟩⟩
       · exact h.elim
     | min =>
       simp only [ppop, hc] at h ⊢
       split at h
       · exact ⟨_, h.2, fun K' h' => ⟨h.1, h'⟩⟩
       · exact h.elim
     | _ => simp only [ppop, hc] at h
 | _ => simp only [ppop] at h
end
end Go.Pw
