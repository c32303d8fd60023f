/- Merged from the working texts PwE PwF. -/
import Derived.Test.YtkflegdaeienlaaGreatDoorKc04
set_option linter.all false
set_option maxHeartbeats 400000
set_option linter.unusedVariables false
set_option linter.unusedSimpArgs false
namespace Go.Pw
open Go.RowKit
section
variable {E : Env} {w0 : Base} {A0 : Nat → Prop} {σ : St} {a : Act} {w : World} {loc : Nat → Value} {o : Oper} {Q : Exit → Act → World → Prop}
theorem getElem?_unSR {rows : List (List SV)} {i j : Nat} {r : List PV} {d : PV} (hi : (unSR rows)[i]? = some r) (hj : r[j]? = some d) : ∃ r' x, rows[i]? = some r' ∧ r'[j]? = some x ∧ d = x.unsh := by
 simp only [unSR, List.getElem?_map, Option.map_eq_some_iff] at hi
 obtain ⟨r', h1, rfl⟩ := hi
 simp only [List.getElem?_map, Option.map_eq_some_iff] at hj
 obtain ⟨x, h2, rfl⟩ := hj
 exact ⟨r', x, h1, h2, rfl⟩
theorem allSh_get {rows : List (List SV)} (h : allSh rows = true) {i j : Nat} {r : List SV} {x : SV} (hi : rows[i]? = some r) (hj : r[j]? = some x) : x.isSh = true :=
 List.all_eq_true.1 (List.all_eq_true.1 h r (List.mem_of_getElem? hi)) x (List.mem_of_getElem? hj)
theorem row_reads {w : World} {A A' : Nat → Prop} {B e sz : Nat} {v : Value} {rows : List (List SV)} {loc : Nat → Value} (hob : ObAt w A loc B v (.rw e sz rows)) (hsh : allSh rows = true)
   (hR : ∀ u d, R w A u d → R w A' u d) (hb : ∀ b, blk v = some b → ¬ A' b) : R w A' v (.sl (unSR rows)) := by
 obtain ⟨xs, hz, hown, hsz, hm, h1, hr⟩ := rw_inv hob
 rcases hown.2 with ⟨rfl, hn⟩ | ⟨g, cap, cur, rfl, hB, hh, hc, hm', hs, ht⟩
 · obtain rfl := List.eq_nil_of_length_eq_zero hn
   exact .nilsl _ _ (fun _ => rfl)
 · rcases Nat.eq_zero_or_pos rows.length with h0 | h0
   · obtain rfl := List.eq_nil_of_length_eq_zero h0
     exact .nilsl _ _ (fun h => by cases h)
   · have hcell := fun {j : Nat} (hj : j < rows.length * sz) => ownsRow_cell hown rfl hj
     refine .sl (fun i j => xs.getD (i * sz + j) undef) (by simp [unSR]) h0 hsz hc hm (hb g rfl) (fun r hr' => ?_) (fun i j hi hj => ?_) (fun i j hi hj => h1 _ (hcell (idx_lt hi hj)).2) (fun i j r d hi hj => ?_)
     · obtain ⟨q, hq, rfl⟩ := List.mem_map.1 hr'
       simpa using hz q hq
     · rw [Nat.zero_add]; exact (hcell (idx_lt hi hj)).1
     · obtain ⟨r', x, h2, h3, rfl⟩ := getElem?_unSR hi hj
       exact hR _ _ ((hr i j r' x h2 h3).ofSh (allSh_get hsh h2 h3))
theorem Inv.retell (h : Inv E.gpv w0 A0 σ a w loc) (σ' : St) (hs : ∀ t v, RS w (fun b => A0 b ∨ act σ loc b) loc v (σ.s t) → RS w (fun b => A0 b ∨ act σ' loc b) loc v (σ'.s t))
   (hsub : ∀ k ob', σ'.o k = some ob' → ∃ ob, σ.o k = some ob)
   (ho : ∀ k ob ob', σ'.o k = some ob' → σ.o k = some ob → ObAt w (fun b => A0 b ∨ act σ loc b) loc 0 (loc k) ob → ObAt w (fun b => A0 b ∨ act σ' loc b) loc 0 (loc k) ob') : Inv E.gpv w0 A0 σ' a w loc := by
 have hact : ∀ b, act σ' loc b → act σ loc b := by
   rintro b ⟨k, ob', hk, hb⟩
   obtain ⟨ob, h1⟩ := hsub k ob' hk
   exact ⟨k, ob, h1, hb⟩
 refine { iB := h.iB, iA := h.iA, iD := h.iD, iS := fun t => hs t _ (h.iS t), iO := ?_, iJ := ?_, iF := ?_, iG := fun g => (h.iG g).step (fun _ _ _ => rfl) (fun b _ => Or.imp_right (hact b)) }
 · intro k ob' hk
   obtain ⟨ob, h1⟩ := hsub k ob' hk
   exact ho k ob ob' hk h1 (h.iO k ob h1)
 · intro k k' ob ob' b h1 h2
   obtain ⟨_, h3⟩ := hsub k ob h1
   obtain ⟨_, h4⟩ := hsub k' ob' h2
   exact h.iJ k k' _ _ b h3 h4
 · intro k ob b h1
   obtain ⟨_, h3⟩ := hsub k ob h1
   exact h.iF k _ b h3
theorem not_act (h : Inv E.gpv w0 A0 σ a w loc) {σ' : St} {k : Nat} {ob : Ob} (hk : σ.o k = some ob) (hk' : σ'.o k = none) (hsub : ∀ j ob', σ'.o j = some ob' → ∃ ob, σ.o j = some ob) {b : Nat} (hb : blk (loc k) = some b) : ¬ (A0 b ∨ act σ' loc b) := by
 rintro (hA | ⟨j, ob', hj, hjb⟩)
 · exact (h.iF k ob b hk hb).1.2 hA
 · obtain ⟨ob2, h2⟩ := hsub j ob' hj
   have := h.iJ k j ob ob2 b hk h2 hb hjb
   subst this
   rw [hk'] at hj
   cases hj
theorem RS.retell {w : World} {A A' : Nat → Prop} {v : Value} {x : SV} (h : RS w A loc v x) (hA : ∀ b, A' b → A b) : RS w A' loc v x := h.step (fun _ _ _ => rfl) (fun b _ => hA b) (fun _ _ => rfl)
theorem share_sub {k : Nat} {rows : List (List PV)} {j : Nat} {ob' : Ob} (h : (σ.share k rows).o j = some ob') : j ≠ k ∧ ∃ ob, σ.o j = some ob ∧ ob' = ob.share k rows := by
 simp only [St.share] at h
 split at h
 · cases h
 · rename_i hne
   obtain ⟨ob, h1, h2⟩ := Option.map_eq_some_iff.1 h
   exact ⟨hne, ob, h1, h2.symm⟩
theorem Inv.share (h : Inv E.gpv w0 A0 σ a w loc) {k e sz : Nat} {rows : List (List SV)} (hk : σ.o k = some (.rw e sz rows)) (hsh : allSh rows = true) :
   Inv E.gpv w0 A0 (σ.share k (unSR rows)) a w loc ∧ R w (fun b => A0 b ∨ act (σ.share k (unSR rows)) loc b) (loc k) (.sl (unSR rows)) := by
 have hsub : ∀ j ob', (σ.share k (unSR rows)).o j = some ob' → ∃ ob, σ.o j = some ob := fun j ob' hj => by
   obtain ⟨_, ob, h1, _⟩ := share_sub hj
   exact ⟨ob, h1⟩
 have hact : ∀ b, (A0 b ∨ act (σ.share k (unSR rows)) loc b) → (A0 b ∨ act σ loc b) := by
   rintro b (hb | ⟨j, ob', hj, hb⟩)
   · exact .inl hb
   · obtain ⟨ob, h1⟩ := hsub j ob' hj
     exact .inr ⟨j, ob, h1, hb⟩
 have hno : ∀ b, blk (loc k) = some b → ¬ (A0 b ∨ act (σ.share k (unSR rows)) loc b) := fun b hb => not_act h hk (by simp [St.share]) hsub hb
 have hread := row_reads (h.iO k _ hk) hsh (fun u d hu => hu.step (w' := w) (A' := fun b => A0 b ∨ act (σ.share k (unSR rows)) loc b) (fun _ _ _ => rfl) (fun b _ => hact b)) hno
 have hone : ∀ v x, RS w (fun b => A0 b ∨ act σ loc b) loc v x → RS w (fun b => A0 b ∨ act (σ.share k (unSR rows)) loc b) loc v (x.share k (unSR rows)) := by
   intro v x hx
   cases x with
   | sh d => exact hx.retell hact
   | bp q off => exact hx.retell hact
   | rp q s i j =>
     simp only [SV.share]
     split
     · exact .sh (.any v)
     · exact hx.retell hact
   | row q =>
     simp only [SV.share]
     split
     · rename_i e; subst e
       obtain ⟨a1, n1, c1, hl, rfl⟩ := hx.row_eq
       rw [← hl]; exact .sh hread
     · exact hx.retell hact
   | sub q s i n => exact hx.retell hact
   | mr q => exact hx.retell hact
   | mg pre q => exact hx.retell hact
 refine ⟨h.retell _ (fun t v hx => hone v _ hx) hsub (fun j ob ob' hj hj0 hob => ?_), hread⟩
 obtain ⟨hne, ob1, h1, rfl⟩ := share_sub hj
 rw [hj0] at h1
 injection h1 with h1
 subst h1
 cases ob with
 | box cs =>
   obtain ⟨b, e1, xs, hv, hg, hn, h1, hr⟩ := box_inv hob
   rw [hv]
   refine .box hg (by simpa using hn) h1 (fun q x hx => ?_)
   simp only [List.getElem?_map, Option.map_eq_some_iff] at hx
   obtain ⟨y, hy, rfl⟩ := hx
   exact hone _ _ (hr q y hy)
 | rw e2 sz2 rows2 =>
   obtain ⟨xs, hz, hown, hsz, hm, h1, hr⟩ := rw_inv hob
   refine .rw xs (fun r hr' => ?_) (by simpa using hown) hsz (by simpa using hm) h1 (fun i q r x hi hx => ?_)
   · obtain ⟨r0, hq, rfl⟩ := List.mem_map.1 hr'
     simpa using hz r0 hq
   · simp only [List.getElem?_map, Option.map_eq_some_iff] at hi
     obtain ⟨r0, hq, rfl⟩ := hi
     simp only [List.getElem?_map, Option.map_eq_some_iff] at hx
     obtain ⟨y, hy, rfl⟩ := hx
     exact hone _ _ (hr i q r0 y hq hy)
 | mp ds => exact hob.step (fun _ _ _ => rfl) (fun b _ => hact b) (fun _ h => h.elim) (fun _ _ => rfl)
 | it cur rem => exact hob.step (fun _ _ _ => rfl) (fun b _ => hact b) (fun _ h => h.elim) (fun _ _ => rfl)
theorem shareM_sub {k : Nat} {ds : List (ByteArray × PV)} {j : Nat} {ob' : Ob} (h : (σ.shareM k ds).o j = some ob') : j ≠ k ∧ ∃ ob, σ.o j = some ob ∧ ob' = ob.shareM k ds := by
 simp only [St.shareM] at h
 split at h
 · cases h
 · rename_i hne
   obtain ⟨ob, h1, h2⟩ := Option.map_eq_some_iff.1 h
   exact ⟨hne, ob, h1, h2.symm⟩
theorem Inv.shareM (h : Inv E.gpv w0 A0 σ a w loc) {k : Nat} {ds : List (ByteArray × PV)} (hk : σ.o k = some (.mp ds)) :
   Inv E.gpv w0 A0 (σ.shareM k ds) a w loc ∧ R w (fun b => A0 b ∨ act (σ.shareM k ds) loc b) (loc k) (.mp ds) := by
 have hsub : ∀ j ob', (σ.shareM k ds).o j = some ob' → ∃ ob, σ.o j = some ob := fun j ob' hj => by
   obtain ⟨_, ob, h1, _⟩ := shareM_sub hj
   exact ⟨ob, h1⟩
 have hact : ∀ b, (A0 b ∨ act (σ.shareM k ds) loc b) → (A0 b ∨ act σ loc b) := by
   rintro b (hb | ⟨j, ob', hj, hb⟩)
   · exact .inl hb
   · obtain ⟨ob, h1⟩ := hsub j ob' hj
     exact .inr ⟨j, ob, h1, hb⟩
 have hno : ∀ b, blk (loc k) = some b → ¬ (A0 b ∨ act (σ.shareM k ds) loc b) := fun b hb => not_act h hk (by simp [St.shareM]) hsub hb
 obtain ⟨mb, clock, es, es', hv, hg, hp, hn, hdn, hb, hc, hkk, hr⟩ := mp_inv (h.iO k _ hk)
 have hread : R w (fun b => A0 b ∨ act (σ.shareM k ds) loc b) (loc k) (.mp ds) := by
   have h0 := hno mb (by rw [hv]; rfl)
   rw [hv]
   exact .mp es' h0 hg hp hn hdn hb hc hkk (fun j e q d he hd => (hr j e q d he hd).step (fun _ _ _ => rfl) (fun b _ => hact b))
 have hone : ∀ v x, RS w (fun b => A0 b ∨ act σ loc b) loc v x → RS w (fun b => A0 b ∨ act (σ.shareM k ds) loc b) loc v (x.shareM k ds) := by
   intro v x hx
   cases x with
   | mr q =>
     simp only [SV.shareM]
     split
     · rename_i e; subst e
       obtain ⟨b, hl, rfl⟩ := hx.mr_eq
       rw [← hl]; exact .sh hread
     · exact hx.retell hact
   | mg pre q =>
     simp only [SV.shareM]
     split
     · rename_i e; subst e
       obtain ⟨b, cs, hl, rfl, hn, hlast, h1, hr⟩ := hx.mg_eq
       refine .sh (.agg (by simp [hn]) h1 (fun j d hj => ?_))
       rcases Nat.lt_or_ge j pre.length with hlt | hge
       · rw [List.getElem?_append_left hlt] at hj
         exact (hr j d hj).step (fun _ _ _ => rfl) (fun b _ => hact b)
       · rw [List.getElem?_append_right hge] at hj
         have hj0 : j = pre.length := by
           have := (List.getElem?_eq_some_iff.1 hj).1
           simp at this; omega
         subst hj0
         simp at hj
         subst hj
         rw [hlast, ← hl]; exact hread
     · exact hx.retell hact
   | _ => exact hx.retell hact
 refine ⟨h.retell _ (fun t v hx => hone v _ hx) hsub (fun j ob ob' hj hj0 hob => ?_), hread⟩
 obtain ⟨hne, ob1, h1, rfl⟩ := shareM_sub hj
 rw [hj0] at h1
 injection h1 with h1
 subst h1
 cases ob with
 | box cs =>
   obtain ⟨b, e1, xs, hv, hg, hn, h1, hr⟩ := box_inv hob
   rw [hv]
   refine .box hg (by simpa using hn) h1 (fun q x hx => ?_)
   simp only [List.getElem?_map, Option.map_eq_some_iff] at hx
   obtain ⟨y, hy, rfl⟩ := hx
   exact hone _ _ (hr q y hy)
 | rw e2 sz2 rows2 =>
   obtain ⟨xs, hz, hown, hsz, hm, h1, hr⟩ := rw_inv hob
   refine .rw xs (fun r hr' => ?_) (by simpa using hown) hsz (by simpa using hm) h1 (fun i q r x hi hx => ?_)
   · obtain ⟨r0, hq, rfl⟩ := List.mem_map.1 hr'
     simpa using hz r0 hq
   · simp only [List.getElem?_map, Option.map_eq_some_iff] at hi
     obtain ⟨r0, hq, rfl⟩ := hi
     simp only [List.getElem?_map, Option.map_eq_some_iff] at hx
     obtain ⟨y, hy, rfl⟩ := hx
     exact hone _ _ (hr i q r0 y hq hy)
 | mp ds => exact hob.step (fun _ _ _ => rfl) (fun b _ => hact b) (fun _ h => h.elim) (fun _ _ => rfl)
 | it cur rem => exact hob.step (fun _ _ _ => rfl) (fun b _ => hact b) (fun _ h => h.elim) (fun _ _ => rfl)
theorem R.nz1 {w : World} {A : Nat → Prop} {v : Value} {d : PV} (h : R w A v d) : R w A v d.nz1 := by
 unfold PV.nz1
 split
 · cases h; exact .nilsl none 0 (fun _ => rfl)
 · cases h; exact .nilsl _ 0 (fun _ => rfl)
 · exact h
theorem R.nz {w : World} {A : Nat → Prop} {v : Value} {d : PV} (h : R w A v d) : R w A v d.nz := by
 unfold PV.nz
 split
 · cases h with
   | agg hn h1 hr =>
     refine .agg (by simpa using hn) h1 (fun j d hj => ?_)
     rw [List.getElem?_map] at hj
     obtain ⟨x, hx, rfl⟩ := Option.map_eq_some_iff.1 hj
     exact (hr j x hx).nz1
 · exact h
theorem withSh_sound (h : Inv E.gpv w0 A0 σ a w loc) {q : Bool} {x : Operand} {K : PV → St → Prop} (hp : withSh q σ (σ.ev E x) K) :
   ∃ d τ, K d τ ∧ Inv E.gpv w0 A0 τ a w loc ∧ R w (fun b => A0 b ∨ act τ loc b) (a.eval x) d ∧ (∀ b, act τ loc b → act σ loc b) ∧ (q = true → τ = σ) := by
 have hx := ev_ok h x
 unfold withSh at hp
 split at hp
 · rename_i ex
   rw [ex] at hx
   rw [hx.val_eq]
   exact ⟨_, σ, hp, h, .nilsl none 0 (fun _ => rfl), fun _ hb => hb, fun _ => rfl⟩
 · rename_i ex
   rw [ex] at hx
   obtain ⟨p, hv⟩ := hx.sh_inv.e0_inv
   rw [hv]
   exact ⟨_, σ, hp, h, .nilsl _ 0 (fun _ => rfl), fun _ hb => hb, fun _ => rfl⟩
 · rename_i d _ _ ex
   rw [ex] at hx
   exact ⟨d.nz, σ, hp, h, hx.sh_inv.nz, fun _ hb => hb, fun _ => rfl⟩
 · rename_i k ex
   rw [ex] at hx
   split at hp
   · rename_i e sz rows hk
     obtain ⟨hq, hsh, hK⟩ := hp
     obtain ⟨h1, h2⟩ := h.share hk hsh
     obtain ⟨a1, n1, c1, hl, hv⟩ := hx.row_eq
     refine ⟨_, _, hK, h1, by rw [hv, ← hl]; exact h2, ?_, fun e => by rw [hq] at e; cases e⟩
     rintro b ⟨j, ob', hj, hb⟩
     obtain ⟨_, ob, h3, _⟩ := share_sub hj
     exact ⟨j, ob, h3, hb⟩
   · exact hp.elim
 · rename_i pre k ex
   rw [ex] at hx
   split at hp
   · rename_i ds hk
     obtain ⟨hq, hK⟩ := hp
     obtain ⟨h1, h2⟩ := h.shareM hk
     obtain ⟨b, cs, hl, hv, hn, hlast, h3, hr⟩ := hx.mg_eq
     have hact : ∀ b, act (σ.shareM k ds) loc b → act σ loc b := by
       rintro b ⟨j, ob', hj, hb⟩
       obtain ⟨_, ob, h3, _⟩ := shareM_sub hj
       exact ⟨j, ob, h3, hb⟩
     refine ⟨_, _, hK, h1, ?_, hact, fun e => by rw [hq] at e; cases e⟩
     rw [hv]
     refine .agg (by simp [hn]) h3 (fun j d hj => ?_)
     rcases Nat.lt_or_ge j pre.length with hlt | hge
     · rw [List.getElem?_append_left hlt] at hj
       exact (hr j d hj).step (fun _ _ _ => rfl) (fun b _ => Or.imp_right (hact b))
     · rw [List.getElem?_append_right hge] at hj
       have hj0 : j = pre.length := by
         have := (List.getElem?_eq_some_iff.1 hj).1
         simp at this; omega
       subst hj0
       simp at hj
       subst hj
       rw [hlast, ← hl]; exact h2
   · exact hp.elim
 · exact hp.elim
theorem withShs_sound {q : Bool} : ∀ (xs : List Operand) (σ : St) (K : List PV → St → Prop), Inv E.gpv w0 A0 σ a w loc → withShs E q σ xs K →
   ∃ (ds : List PV) (τ : St), K ds τ ∧ Inv E.gpv w0 A0 τ a w loc ∧ ds.length = xs.length ∧ (∀ (j : Nat) (d : PV) (x : Operand), ds[j]? = some d → xs[j]? = some x → R w (fun b => A0 b ∨ act τ loc b) (a.eval x) d) ∧ (∀ b, act τ loc b → act σ loc b) ∧ (q = true → τ = σ)
 | [], σ, K, h, hp => ⟨[], σ, hp, h, rfl, fun j d x hd => by simp at hd, fun _ hb => hb, fun _ => rfl⟩
 | x :: xs, σ, K, h, hp => by
   obtain ⟨d, τ, hp1, h1, hd, hsub, hq⟩ := withSh_sound h hp
   obtain ⟨ds, υ, hK, h2, hl, hds, hsub2, hq2⟩ := withShs_sound xs τ _ h1 hp1
   refine ⟨d :: ds, υ, hK, h2, by simp [hl], fun j d' x' hj hx' => ?_, fun b hb => hsub b (hsub2 b hb), fun e => by rw [hq2 e, hq e]⟩
   cases j with
   | zero =>
     simp only [List.getElem?_cons_zero, Option.some.injEq] at hj hx'
     subst hj; subst hx'
     exact hd.step (fun _ _ _ => rfl) (fun b _ => Or.imp_right (hsub2 b))
   | succ j => exact hds j d' x' (by simpa using hj) (by simpa using hx')
end
end Go.Pw
set_option linter.unusedVariables false
set_option linter.unusedSimpArgs false
namespace Go.Pw
open Go.RowKit
section
variable {E : Env} {w0 : Base} {A0 : Nat → Prop} {σ : St} {a : Act} {w : World} {loc : Nat → Value} {o : Oper} {Q : Exit → Act → World → Prop}
theorem fold_set (off : Nat) : ∀ (vs : List Value) (k : Nat) (cs : Array Value), off + k + vs.length ≤ cs.size →
   ((vs.zipIdx k).foldl (fun cs (p : Value × Nat) => cs.setIfInBounds (off + p.2) p.1) cs).size = cs.size ∧
   ∀ t, ((vs.zipIdx k).foldl (fun cs (p : Value × Nat) => cs.setIfInBounds (off + p.2) p.1) cs)[t]? = if off + k ≤ t ∧ t < off + k + vs.length then vs[t - (off + k)]? else cs[t]?
 | [], k, cs, h => by
   refine ⟨rfl, fun t => ?_⟩
   rw [if_neg (by simp only [List.length_nil]; omega)]
   rfl
 | v :: vs, k, cs, h => by
   simp only [List.zipIdx_cons, List.foldl_cons]
   simp only [List.length_cons] at h
   obtain ⟨h1, h2⟩ := fold_set off vs (k + 1) (cs.setIfInBounds (off + k) v) (by simp; omega)
   refine ⟨by rw [h1]; simp, fun t => ?_⟩
   rw [h2 t]
   by_cases e : t = off + k
   · subst e
     rw [if_neg (by omega), if_pos ⟨by omega, by simp⟩]
     simp [Array.getElem?_setIfInBounds, show off + k < cs.size by omega]
   · by_cases e2 : off + k ≤ t ∧ t < off + k + (v :: vs).length
     · rw [if_pos (by simp at e2; omega), if_pos e2]
       rw [show t - (off + k) = (t - (off + (k + 1))) + 1 by omega]
       simp
     · rw [if_neg (by simp at e2; omega), if_neg e2]
       simp [Array.getElem?_setIfInBounds, Ne.symm e]
theorem R.cells_of {w : World} {A : Nat → Prop} {v : Value} {d : PV} (h : R w A v d) {ys : List PV} (hy : d.cells = some ys) (h1 : ys.all PV.one = true) :
   v.cells.size = ys.length ∧ ∀ j y, ys[j]? = some y → R w A (v.cells.getD j undef) y ∧ (v.cells.getD j undef).oneCell' = true := by
 have single : ∀ {d : PV}, R w A v d → d.one = true → v.cells.size = [d].length ∧ ∀ j y, [d][j]? = some y → R w A (v.cells.getD j undef) y ∧ (v.cells.getD j undef).oneCell' = true := by
   intro d h h1
   have ho := h.one_cell h1
   have hc : v.cells = #[v] := by cases v <;> first | rfl | simp [Value.oneCell'] at ho
   rw [hc]
   refine ⟨rfl, fun j y hj => ?_⟩
   cases j with
   | zero => simp at hj; subst hj; exact ⟨h, ho⟩
   | succ j => simp at hj
 cases d with
 | agg ds =>
   simp only [PV.cells, Option.some.injEq] at hy
   subst hy
   obtain ⟨cs, rfl, hn, h2, hr⟩ := h.agg_inv
   refine ⟨hn, fun j y hj => ⟨hr j y hj, h2 j ?_⟩⟩
   have := (List.getElem?_eq_some_iff.1 hj).1
   show j < cs.size
   omega
 | any => simp [PV.cells] at hy
 | tup vs => simp [PV.cells] at hy
 | val u => simp only [PV.cells, Option.some.injEq] at hy; subst hy; exact single h (by simpa using h1)
 | sl rows => simp only [PV.cells, Option.some.injEq] at hy; subst hy; exact single h rfl
 | ea ds => simp only [PV.cells, Option.some.injEq] at hy; subst hy; exact single h rfl
 | fn g caps => simp only [PV.cells, Option.some.injEq] at hy; subst hy; exact single h rfl
 | e0 => simp only [PV.cells, Option.some.injEq] at hy; subst hy; exact single h rfl
 | mp ds => simp only [PV.cells, Option.some.injEq] at hy; subst hy; exact single h rfl
theorem fill_sound {w : World} {A : Nat → Prop} {place : Nat → Option (Nat × Nat)} {K : List PV → Prop} : ∀ (parts : List (Nat × Value)) (pds : List (Nat × PV)) (cells : Array Value) (cs : List PV), parts.map (·.1) = pds.map (·.1) →
   (∀ (j : Nat) (p : Nat × Value) (d : Nat × PV), parts[j]? = some p → pds[j]? = some d → R w A p.2 d.2) → cells.size = cs.length →
   (∀ (j : Nat) (y : PV), cs[j]? = some y → R w A (cells.getD j undef) y ∧ (cells.getD j undef).oneCell' = true) → buildC place cs pds K →
   ∃ (cells' : Array Value) (cs' : List PV), Instr.fill place cells parts = some cells' ∧ K cs' ∧ cells'.size = cs'.length ∧ ∀ (j : Nat) (y : PV), cs'[j]? = some y → R w A (cells'.getD j undef) y ∧ (cells'.getD j undef).oneCell' = true
 | [], pds, cells, cs, he, _, hn, hc, hp => by
   cases pds with
   | nil => exact ⟨cells, cs, rfl, hp, hn, hc⟩
   | cons p q => simp at he
 | (i, v) :: rest, pds, cells, cs, he, hR, hn, hc, hp => by
   cases pds with
   | nil => simp at he
   | cons p q =>
     obtain ⟨i', d⟩ := p
     simp only [List.map_cons, List.cons.injEq] at he
     obtain ⟨rfl, he⟩ := he
     simp only [buildC] at hp
     split at hp
     · rename_i off size ys hpl hys
       obtain ⟨hl, hle, h1, hp⟩ := hp
       have hv : R w A v d := hR 0 (i, v) (i, d) rfl rfl
       obtain ⟨hvs, hvr⟩ := R.cells_of hv hys h1
       have hsz : v.cells.size = size := by omega
       have hfold := fold_set off v.cells.toList 0 cells (by simp; omega)
       have hset : v.cells.zipIdx.foldl (fun cs (x : Value × Nat) => cs.setIfInBounds (off + x.2) x.1) cells = (v.cells.toList.zipIdx 0).foldl (fun cs (p : Value × Nat) => cs.setIfInBounds (off + p.2) p.1) cells := by
         rw [← Array.foldl_toList, Array.toList_zipIdx]
       obtain ⟨c', cs', hf, hK, hn', hc'⟩ := fill_sound rest q (v.cells.zipIdx.foldl (fun cs (x : Value × Nat) => cs.setIfInBounds (off + x.2) x.1) cells) (spliceP cs off ys) he (fun j p d hp hd => hR (j + 1) p d (by simpa using hp) (by simpa using hd)) (by
           rw [hset, hfold.1]; simp [spliceP]; omega) (fun j y hj => by
           rw [hset, Array.getD_eq_getD_getElem?, hfold.2 j]
           simp only [spliceP] at hj
           by_cases hin : off ≤ j ∧ j < off + ys.length
           · rw [if_pos (by simp; omega)]
             rw [List.append_assoc, List.getElem?_append_right (by simp; omega), List.getElem?_append_left (by simp; omega)] at hj
             have hmin : min off cs.length = off := by omega
             simp only [List.length_take, hmin] at hj
             have := hvr _ _ hj
             simpa [Array.getD_eq_getD_getElem?] using this
           · rw [if_neg (by simp; omega)]
             have hold : cs[j]? = some y := by
               by_cases hlt : j < off
               · rw [List.append_assoc, List.getElem?_append_left (by simp; omega), List.getElem?_take, if_pos hlt] at hj
                 exact hj
               · rw [List.append_assoc, List.getElem?_append_right (by simp; omega), List.getElem?_append_right (by simp; omega), List.getElem?_drop] at hj
                 simp only [List.length_take] at hj
                 rwa [show off + ys.length + (j - min off cs.length - ys.length) = j by omega] at hj
             have := hc j y hold
             simpa [Array.getD_eq_getD_getElem?] using this) hp
       refine ⟨c', cs', ?_, hK, hn', hc'⟩
       simp only [Instr.fill, hpl]
       rw [if_neg (by simp; omega)]
       exact hf
     · exact hp.elim
theorem places_of {fs : List (Nat × Nat)} {F : List Field} (hF : F.map (fun f => (f.offset, f.type)) = fs) (hok : (fs.all fun p => (E.tt p.2).isSome) = true) :
   ∃ pl : List (Nat × Nat), F.mapM (fun f => (E.P.info? f.type).map fun i => (f.offset, i.size)) = some pl ∧ ∀ i, pl[i]? = placeOf E (.st fs) i := by
 subst hF
 induction F with
 | nil => exact ⟨[], rfl, fun i => by simp [placeOf]⟩
 | cons f F ih =>
   simp only [List.map_cons, List.all_cons, Bool.and_eq_true] at hok
   obtain ⟨pl, h1, h2⟩ := ih hok.2
   obtain ⟨j, hj⟩ := Option.isSome_iff_exists.1 hok.1
   obtain ⟨I, hI, hs, _⟩ := (E.ok _ _ hj).info
   refine ⟨(f.offset, I.size) :: pl, by simp [List.mapM_cons, hI, h1], fun i => ?_⟩
   cases i with
   | zero => simp [placeOf, hj, hs]
   | succ i => simpa [placeOf] using h2 i
theorem fill_congr {p p' : Nat → Option (Nat × Nat)} (h : ∀ i, p i = p' i) : ∀ (parts : List (Nat × Value)) (cells : Array Value), Instr.fill p cells parts = Instr.fill p' cells parts := by
 have : p = p' := funext h
 subst this
 intro _ _; rfl
theorem run_build_of {T : Nat} {i : TI} (hi : E.tt T = some i) (hok : kOk E i.kind = true) (parts : Array (Nat × Value)) (cells : Array Value)
   (hf : ∀ z : Array Value, z.toList = i.zero → Instr.fill (placeOf E i.kind) z parts.toList = some cells) (w : World) : (Instr.build T parts).run E.P w = .ok (.agg cells) w := by
 have tk := E.ok T i hi
 refine run_build w T parts cells ?_
 obtain ⟨I, hI, hs, _⟩ := tk.info
 have hz := tk.zero
 simp only [hI, Option.bind_some] at hz
 obtain ⟨z, hz1, hz2⟩ := Option.map_eq_some_iff.1 hz
 have hk := tk.kind
 cases e : i.kind with
 | st fs =>
   rw [e] at hk hok
   obtain ⟨F, hF, hm⟩ := hk
   obtain ⟨pl, h1, h2⟩ := places_of (E := E) hm hok
   simp only [Program.built, hI, hF, hz1, h1]
   rw [fill_congr (p' := placeOf E (.st fs)) (fun i => by simpa using h2 i), ← e]
   exact hf z.cells hz2
 | ar n e' =>
   rw [e] at hk hok
   obtain ⟨j, hj⟩ := Option.isSome_iff_exists.1 hok
   obtain ⟨J, hJ, hs', _⟩ := (E.ok _ _ hj).info
   simp only [Program.built, hI, hk, hz1, hJ]
   rw [fill_congr (p' := placeOf E (.ar n e')) (fun i => by simp [placeOf, hj, hs']), ← e]
   exact hf z.cells hz2
 | _ => rw [e] at hok; simp [kOk] at hok
theorem build_sound (h : Inv E.gpv w0 A0 σ a w loc) {q : Bool} {T : Nat} {parts : Array (Nat × Operand)} (ho : o.op = .build T parts) {K : PV → St → Prop} (hp : buildP E q σ T parts.toList K) :
   ∃ v d τ, (execOp a.eval o).run E.P w = .ok (.value v) w ∧ K d τ ∧ Inv E.gpv w0 A0 τ a w loc ∧ R w (fun b => A0 b ∨ act τ loc b) v d ∧ (∀ b, act τ loc b → act σ loc b) ∧ (q = true → τ = σ) := by
 unfold buildP at hp
 split at hp
 · rename_i i hi
   obtain ⟨hok, hp⟩ := hp
   obtain ⟨ds, τ, hK, h1, hl, hR, hsub, hq⟩ := withShs_sound _ _ _ h hp
   have tk := E.ok T i hi
   have hl' : ds.length = parts.size := by simpa using hl
   have key : ∀ z : Array Value, z.toList = i.zero → ∃ (cells' : Array Value) (cs' : List PV), Instr.fill (placeOf E i.kind) z (parts.map fun (i, x) => (i, a.eval x)).toList = some cells' ∧ K (.agg cs') τ ∧ cells'.size = cs'.length ∧
       ∀ (j : Nat) (y : PV), cs'[j]? = some y → R w (fun b => A0 b ∨ act τ loc b) (cells'.getD j undef) y ∧ (cells'.getD j undef).oneCell' = true := by
     intro z hz
     refine fill_sound _ ((parts.toList.map (·.1)).zip ds) z (i.zero.map .val) ?_ ?_ ?_ ?_ hK
     · rw [List.map_fst_zip (by simp; omega)]; simp [Function.comp_def]
     · intro j p d hp hd
       simp only [Array.toList_map, List.getElem?_map, Option.map_eq_some_iff] at hp
       obtain ⟨⟨i0, x⟩, hx, rfl⟩ := hp
       rw [List.getElem?_zip_eq_some] at hd
       refine hR j d.2 x hd.2 ?_
       simp [hx]
     · rw [List.length_map, ← hz]; simp
     · intro j y hj
       simp only [List.getElem?_map, Option.map_eq_some_iff] at hj
       obtain ⟨u, hu, rfl⟩ := hj
       have hzu : z[j]? = some u := by rw [← Array.getElem?_toList, hz]; exact hu
       rw [getD_of_getElem? hzu]
       exact ⟨.val u, List.all_eq_true.1 tk.zone u (List.mem_of_getElem? hu)⟩
   obtain ⟨cells, cs, hf, hKc, hn, hc⟩ := key i.zero.toArray (by simp)
   have hrun := run_build_of hi hok (parts.map fun (i, x) => (i, a.eval x)) cells (fun z hz => by
     have : z = i.zero.toArray := Array.ext' (by simp [hz])
     rw [this]; exact hf) w
   refine ⟨.agg cells, .agg cs, τ, ?_, hKc, h1, .agg hn (fun j hj => ?_) (fun j d hd => (hc j d hd).1), hsub, hq⟩
   · simp only [execOp, ho, Sem.run_bind, hrun, Result.andThen_ok, Sem.run_pure]
   · have : j < cs.length := by omega
     exact (hc j cs[j] (by simp [this])).2
 · exact hp.elim
theorem slice_val {w : World} {A : Nat → Prop} {b off c sz : Nat} {rows : List (List PV)} (h : R w A (.slice (some ⟨b, off, none⟩) rows.length c) (.sl rows)) (h0 : 0 < rows.length) (hz : ∀ r ∈ rows, r.length = sz) {l u : Nat} (hl : l ≤ u) (hu : u ≤ rows.length) (hc : rows.length ≤ c) :
   R w A (.slice (if c = l then some ⟨b, off, none⟩ else some ((⟨b, off, none⟩ : Addr).add (l * sz))) (u - l) (c - l)) (.sl ((rows.take u).drop l)) := by
 rcases h.sl_inv with ⟨rfl, _⟩ | ⟨b', o', c', sz', f, hv, hpos, hsz, hc', hm, hA, hz', hcell, hone, hr⟩
 · simp at h0
 · injection hv with e1 e2 e3
   injection e1 with e1; injection e1 with e1 e4
   subst e1; subst e4; subst e3
   have hss : sz' = sz := by
     have hmem : rows[0] ∈ rows := List.getElem_mem _
     rw [← hz _ hmem, hz' _ hmem]
   subst hss
   rcases Nat.lt_or_ge l u with hlt | hge
   · rw [if_neg (by omega), add_mk]
     refine .sl (fun i j => f (l + i) j) (by simp; omega) (by omega) hsz (by omega) (by omega) hA (fun r hr' => hz' r (List.mem_of_mem_take (List.mem_of_mem_drop hr'))) (fun i j hi hj => ?_) (fun i j hi hj => hone _ _ (by omega) hj) (fun i j r d hi hj => ?_)
     · rw [show off + l * sz' + (i * sz' + j) = off + ((l + i) * sz' + j) by rw [Nat.add_mul]; omega]
       exact hcell _ _ (by omega) hj
     · rw [List.getElem?_drop, List.getElem?_take] at hi
       split at hi
       · exact hr _ _ r d hi hj
       · cases hi
   · have : u = l := by omega
     subst this
     have he : (rows.take u).drop u = [] := List.drop_eq_nil_of_le (by simp; omega)
     rw [he, Nat.sub_self]
     refine .nilsl _ _ (fun h => ?_)
     split at h <;> simp at h
theorem slice_val_nil {w : World} {A : Nat → Prop} {x : Option Addr} {c n : Nat} (hc : x = none → c = 0) : R w A (.slice (if c = 0 then x else x.map (·.add (0 * n))) (0 - 0) (c - 0)) (.sl []) := by
 refine .nilsl _ _ (fun h => ?_)
 split at h
 · omega
 · cases x with
   | none => simpa using hc rfl
   | some p => simp at h
theorem run_bounds {P : Program} {w : World} {len cap : Nat} {lo hi : Option Value} {l u : Nat} (hlo : (lo = none ∧ l = 0) ∨ ∃ k n, lo = some (.int k n) ∧ 0 ≤ n ∧ l = n.toNat) (hhi : (hi = none ∧ u = len) ∨ ∃ k n, hi = some (.int k n) ∧ 0 ≤ n ∧ u = n.toNat)
   (h1 : l ≤ u) (h2 : u ≤ len) (h3 : len ≤ cap) : (Instr.sliceBounds true len cap lo hi none).run P w = .ok (l, u, cap) w := by
 have hu' : u ≤ cap := by omega
 rcases hlo with ⟨rfl, rfl⟩ | ⟨k, n, rfl, hn, rfl⟩
 · rcases hhi with ⟨rfl, rfl⟩ | ⟨k', n', rfl, hn', rfl⟩
   · simp [Instr.sliceBounds]
   · have : n' ≤ (cap : Int) := by omega
     simp [Instr.sliceBounds, Instr.sliceBound, asIntOf, hn', this]
 · rcases hhi with ⟨rfl, rfl⟩ | ⟨k', n', rfl, hn', rfl⟩
   · have : n ≤ (u : Int) := by omega
     simp [Instr.sliceBounds, Instr.sliceBound, asIntOf, hn, this]
   · have h4 : n' ≤ (cap : Int) := by omega
     have h5 : n ≤ n' := by omega
     simp [Instr.sliceBounds, Instr.sliceBound, asIntOf, hn', h4, hn, h5, Int.toNat_of_nonneg hn', Int.max_eq_left hn']
theorem run_sliceAt {T e : Nat} {i ie : TI} (hi : E.tt T = some i) (hk : i.kind = .sl e) (he : E.tt e = some ie) {w : World} {A : Nat → Prop} {v : Value} {rows : List (List PV)} (hv : R w A v (.sl rows)) (hz : ∀ r ∈ rows, r.length = ie.size) {lo hi' : Option Value} {l u : Nat}
   (hlo : (lo = none ∧ l = 0) ∨ ∃ k n, lo = some (.int k n) ∧ 0 ≤ n ∧ l = n.toNat) (hhi : (hi' = none ∧ u = rows.length) ∨ ∃ k n, hi' = some (.int k n) ∧ 0 ≤ n ∧ u = n.toNat) (h1 : l ≤ u) (h2 : u ≤ rows.length) :
   ∃ v', (Instr.sliceAt T v lo hi' none).run E.P w = .ok v' w ∧ R w A v' (.sl ((rows.take u).drop l)) := by
 have hu := (E.ok T i hi).kind
 rw [hk] at hu
 have hs := (E.ok e ie he).run_sizeOf w
 rcases hv.sl_inv with ⟨rfl, x, c, rfl, hc⟩ | ⟨b, off, c, sz, f, rfl, hpos, hsz, hc, hm, hA, hz', hcell, hone, hr⟩
 · have hb := run_bounds (P := E.P) (w := w) (len := 0) (cap := c) hlo (by simpa using hhi) h1 (by simpa using h2) (Nat.zero_le _)
   have hl0 : l = 0 := by simp at h2; omega
   have hu0 : u = 0 := by simpa using h2
   subst hl0; subst hu0
   refine ⟨_, ?_, (slice_val_nil (n := ie.size) hc : R w A _ (.sl []))⟩
   simp only [Instr.sliceAt, Sem.run_bind, run_underlying hu, Result.andThen_ok, Instr.slice, hb, hs, Sem.run_pure]
 · have hb := run_bounds (P := E.P) (w := w) (len := rows.length) (cap := c) hlo hhi h1 h2 hc
   refine ⟨_, ?_, slice_val hv hpos hz h1 h2 hc⟩
   simp only [Instr.sliceAt, Sem.run_bind, run_underlying hu, Result.andThen_ok, Instr.slice, hb, hs, Sem.run_pure]
   simp only [Option.map_some]
end
end Go.Pw
