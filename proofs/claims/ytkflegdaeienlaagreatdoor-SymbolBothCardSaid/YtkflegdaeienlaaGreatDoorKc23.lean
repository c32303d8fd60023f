/- Merged from the working texts PwU PwQ PwR. -/
import Derived.Test.YtkflegdaeienlaaGreatDoorKc22
import Derived.Test.YtkflegdaeienlaaGreatDoorKc17
import Derived.Lib.SliceRun
set_option linter.all false
set_option maxHeartbeats 400000
set_option maxRecDepth 100000
set_option linter.unusedVariables false
namespace Go.Pw
open Go Go.Proofs
theorem sp1 (r : List SV) (off : Nat) (ys : List SV) : splice r off ys = r.take off ++ ys ++ r.drop (off + ys.length) := rfl
theorem sp2 (r : List PV) (off : Nat) (ys : List PV) : spliceP r off ys = r.take off ++ ys ++ r.drop (off + ys.length) := rfl
theorem TKa1 (f : List (Nat × Nat)) : TK.agg (.st f) = true := rfl
theorem TKa2 (n e : Nat) : TK.agg (.ar n e) = true := rfl
theorem TKa3 (e : Nat) : TK.agg (.sl e) = false := rfl
theorem TKa4 : TK.agg .bo = false := rfl
theorem TKa5 : TK.agg .ot = false := rfl
theorem ish1 (d : PV) : SV.isSh (.sh d) = true := rfl
theorem ish2 (k o : Nat) : SV.isSh (.bp k o) = false := rfl
theorem ish3 (k : Nat) : SV.isSh (.row k) = false := rfl
theorem ish4 (k a b c : Nat) : SV.isSh (.rp k a b c) = false := rfl
theorem uns (d : PV) : SV.unsh (.sh d) = d := rfl
theorem shc0 (σ : St) (K : St → Prop) : shareCells [] σ K = K σ := rfl
theorem shc1 (d : PV) (r : List SV) (σ : St) (K : St → Prop) : shareCells (.sh d :: r) σ K = shareCells r σ K := rfl
theorem shc2 (k : Nat) (r : List SV) (σ : St) (K : St → Prop) : shareCells (.row k :: r) σ K = match σ.o k with
   | some (.rw _ _ rows) => allSh rows = true ∧ shareCells r (σ.share k (unSR rows)) K
   | _ => False := rfl
theorem shc3 (k o : Nat) (r : List SV) (σ : St) (K : St → Prop) : shareCells (.bp k o :: r) σ K = shareCells r σ K := rfl
theorem shc4 (k a b c : Nat) (r : List SV) (σ : St) (K : St → Prop) : shareCells (.rp k a b c :: r) σ K = shareCells r σ K := rfl
theorem dect : decide True = true := rfl
theorem fcb (p q : Prop) (h : p) : (p → q) = q := propext ⟨fun f => f h, fun x _ => x⟩
theorem zle (n : Nat) : (0 ≤ n) = True := by simp
theorem eqs1 (a : Nat) : (a = a) = True := by simp
theorem eqs2 (a : Bool) : (a = a) = True := by simp
theorem eqs3 (a : IntKind) : (a = a) = True := by simp
theorem ix_sub (E : Env) (σ : St) (K : SV → Prop) (k : IntKind) (n : Int) (s b e : Nat) (z : List Value) (r sz i m : Nat) : ixaV E (some { size := s, bytes := b, zero := z, kind := .sl e }) σ (.sub r sz i m) (.sh (.val (.int k n))) K = match E.tt e with
   | some ie => 0 ≤ n ∧ n.toNat < m ∧ sz = ie.size ∧ K (.rp r sz (i + n.toNat) 0)
   | none => False := rfl
theorem lni1 : (([] : List PV) = []) = True := by simp
theorem lni2 (a : PV) (l : List PV) : (a :: l = []) = False := by simp
theorem agS1 (a : PV) : aggSV [.sh a] = some (.sh (.agg [a])) := rfl
theorem agS2 (a b : PV) : aggSV [.sh a, .sh b] = some (.sh (.agg [a, b])) := rfl
theorem agS3 (a b c : PV) : aggSV [.sh a, .sh b, .sh c] = some (.sh (.agg [a, b, c])) := rfl
theorem agS4 (a b c d : PV) : aggSV [.sh a, .sh b, .sh c, .sh d] = some (.sh (.agg [a, b, c, d])) := rfl
theorem agS5 (a b c d e : PV) : aggSV [.sh a, .sh b, .sh c, .sh d, .sh e] = some (.sh (.agg [a, b, c, d, e])) := rfl
theorem agS6 (a b c d e f : PV) : aggSV [.sh a, .sh b, .sh c, .sh d, .sh e, .sh f] = some (.sh (.agg [a, b, c, d, e, f])) := rfl
theorem agS7 (a b c d e f g : PV) : aggSV [.sh a, .sh b, .sh c, .sh d, .sh e, .sh f, .sh g] = some (.sh (.agg [a, b, c, d, e, f, g])) := rfl
theorem agM2 (a : PV) (k : Nat) : aggSV [.sh a, .mr k] = some (.mg [a] k) := rfl
theorem ws_mg (q : Bool) (σ : St) (pre : List PV) (k : Nat) (K : PV → St → Prop) : withSh q σ (.mg pre k) K = match σ.o k with
   | some (.mp ds) => q = false ∧ K (.agg (pre ++ [.mp ds])) (σ.shareM k ds)
   | _ => False := rfl
theorem ws_e0 (q : Bool) (σ : St) (K : PV → St → Prop) : withSh q σ (.sh .e0) K = K (.sl []) σ := rfl
theorem ws_mp (q : Bool) (σ : St) (ds : List (ByteArray × PV)) (K : PV → St → Prop) : withSh q σ (.sh (.mp ds)) K = K (.mp ds) σ := rfl
theorem id_sv (x : SV) : id x = x := rfl
theorem cells_mg (pre : List PV) (k : Nat) : SV.cells (.mg pre k) = some (pre.map .sh ++ [.mr k]) := rfl
theorem cells_mr (k : Nat) : SV.cells (.mr k) = some [.mr k] := rfl
theorem cells_mp (ds : List (ByteArray × PV)) : SV.cells (.sh (.mp ds)) = some [.sh (.mp ds)] := rfl
theorem pcells_mp (ds : List (ByteArray × PV)) : PV.cells (.mp ds) = some [.mp ds] := rfl
theorem nz_mp (ds : List (ByteArray × PV)) : PV.nz1 (.mp ds) = .mp ds := rfl
theorem nz_e0 : PV.nz1 .e0 = .sl [] := rfl
theorem one_mp (ds : List (ByteArray × PV)) : PV.one (.mp ds) = true := rfl
theorem one_e0 : PV.one .e0 = true := rfl
theorem sone_mr (k : Nat) : SV.one (.mr k) = true := rfl
theorem ppl_1 (E : Env) (σ : St) (K : SV → Prop) (T : Nat) (a : Operand) : ppop E (.load T a) σ K = pplV (E.tt T) (σ.ev E a) σ K := e_ppl E σ K T a
theorem sh_cN (l : List Nat) : SV.sh (cN l) = .sh (.sl (l.map fun (x : Nat) => [.val (.int .u32 (x : Int))])) := rfl
theorem nz1_cN (l : List Nat) : PV.nz1 (cN l) = cN l := rfl
theorem one_cN (l : List Nat) : PV.one (cN l) = true := rfl
theorem pce_cN (l : List Nat) : PV.cells (cN l) = some [cN l] := rfl
theorem sh_cI (l : List Int) : SV.sh (cI l) = .sh (.sl (l.map fun x => [.val (.int .i64 x)])) := rfl
theorem nz1_cI (l : List Int) : PV.nz1 (cI l) = cI l := rfl
theorem one_cI (l : List Int) : PV.one (cI l) = true := rfl
theorem pce_cI (l : List Int) : PV.cells (cI l) = some [cI l] := rfl
theorem sh_cB (l : List Bool) : SV.sh (cB l) = .sh (.sl (l.map fun x => [.val (.bool x)])) := rfl
theorem nz1_cB (l : List Bool) : PV.nz1 (cB l) = cB l := rfl
theorem one_cB (l : List Bool) : PV.one (cB l) = true := rfl
theorem pce_cB (l : List Bool) : PV.cells (cB l) = some [cB l] := rfl
theorem sh_cRs (l : List Rt) : SV.sh (cRs l) = .sh (.sl (l.map cR)) := rfl
theorem nz1_cRs (l : List Rt) : PV.nz1 (cRs l) = cRs l := rfl
theorem one_cRs (l : List Rt) : PV.one (cRs l) = true := rfl
theorem pce_cRs (l : List Rt) : PV.cells (cRs l) = some [cRs l] := rfl
theorem sh_cTs (l : List Tm) : SV.sh (cTs l) = .sh (.sl (l.map cT)) := rfl
theorem nz1_cTs (l : List Tm) : PV.nz1 (cTs l) = cTs l := rfl
theorem one_cTs (l : List Tm) : PV.one (cTs l) = true := rfl
theorem pce_cTs (l : List Tm) : PV.cells (cTs l) = some [cTs l] := rfl
theorem sh_cQs (l : List Qt) : SV.sh (cQs l) = .sh (.sl (l.map cQ)) := rfl
theorem nz1_cQs (l : List Qt) : PV.nz1 (cQs l) = cQs l := rfl
theorem one_cQs (l : List Qt) : PV.one (cQs l) = true := rfl
theorem pce_cQs (l : List Qt) : PV.cells (cQs l) = some [cQs l] := rfl
theorem sh_cRss (l : List (List Rt)) : SV.sh (cRss l) = .sh (.sl (l.map fun r => [cRs r])) := rfl
theorem nz1_cRss (l : List (List Rt)) : PV.nz1 (cRss l) = cRss l := rfl
theorem one_cRss (l : List (List Rt)) : PV.one (cRss l) = true := rfl
theorem pce_cRss (l : List (List Rt)) : PV.cells (cRss l) = some [cRss l] := rfl
theorem sh_vI (l : Int) : SV.sh (vI l) = .sh (.val (.int .i64 l)) := rfl
theorem nz1_vI (l : Int) : PV.nz1 (vI l) = vI l := rfl
theorem one_vI (l : Int) : PV.one (vI l) = true := rfl
theorem pce_vI (l : Int) : PV.cells (vI l) = some [vI l] := rfl
theorem sh_vB (l : Bool) : SV.sh (vB l) = .sh (.val (.bool l)) := rfl
theorem nz1_vB (l : Bool) : PV.nz1 (vB l) = vB l := rfl
theorem one_vB (l : Bool) : PV.one (vB l) = true := rfl
theorem pce_vB (l : Bool) : PV.cells (vB l) = some [vB l] := rfl
def shL (a n : Nat) : Nat := a * 2 ^ n
def shI (a : Int) (n : Nat) : Int := a / ((2 ^ n : Nat) : Int)
theorem shI_nat (a n : Nat) : shI (a : Int) n = ((a / 2 ^ n : Nat) : Int) := rfl
theorem b_shl_u64v (E : Env) (T : Nat) (k' : IntKind) (a n : Nat) (K : Value → Prop) (hn : n < 64) (h : shL a n < 18446744073709551616) : binV E .shl T (.sh (.val (.int .u64 (a : Int)))) (.sh (.val (.int k' (n : Int)))) K = K (.int .u64 ((shL a n : Nat) : Int)) := by
 unfold shL at *
 rw [b_shl]
 have e : (min (n : Int).toNat IntKind.u64.bits) = n := by rw [Int.toNat_natCast]; exact Nat.min_eq_left (Nat.le_of_lt hn)
 have e2 : (a : Int) * 2 ^ n = ((a * 2 ^ n : Nat) : Int) := by simp
 rw [e, e2, w_u64 _ (by omega) (by omega)]
 simp
theorem b_shr_u64v (E : Env) (T : Nat) (k' : IntKind) (a : Int) (n : Nat) (K : Value → Prop) (hn : n < 64) (h : 0 ≤ a) : binV E .shr T (.sh (.val (.int .u64 a))) (.sh (.val (.int k' (n : Int)))) K = K (.int .u64 (shI a n)) := by
 unfold shI
 rw [b_shr]
 have e : (min (n : Int).toNat IntKind.u64.bits) = n := by rw [Int.toNat_natCast]; exact Nat.min_eq_left (Nat.le_of_lt hn)
 have e2 : ((2 ^ n : Nat) : Int) = (2 : Int) ^ n := by simp
 rw [e, e2, Int.fdiv_eq_ediv_of_nonneg _ (by rw [← e2]; exact Int.natCast_nonneg _)]
 simp
theorem b_shr_u32v (E : Env) (T : Nat) (k' : IntKind) (a : Int) (n : Nat) (K : Value → Prop) (hn : n < 32) (h : 0 ≤ a) : binV E .shr T (.sh (.val (.int .u32 a))) (.sh (.val (.int k' (n : Int)))) K = K (.int .u32 (shI a n)) := by
 unfold shI
 rw [b_shr]
 have e : (min (n : Int).toNat IntKind.u32.bits) = n := by rw [Int.toNat_natCast]; exact Nat.min_eq_left (Nat.le_of_lt hn)
 have e2 : ((2 ^ n : Nat) : Int) = (2 : Int) ^ n := by simp
 rw [e, e2, Int.fdiv_eq_ediv_of_nonneg _ (by rw [← e2]; exact Int.natCast_nonneg _)]
 simp
theorem AB : type_of% (And.intro (And.intro (And.intro (And.intro (And.intro (And.intro (And.intro (@b_shl_u64v) (And.intro (@b_shr_u64v) (@b_shr_u32v))) (And.intro (And.intro (@LA) (@LB)) (And.intro (@LC) (@LM)))) (And.intro (And.intro (@LW) (And.intro (@LX) (@TT))) (And.intro (And.intro (@UU) (@e_move)) (And.intro (@e_assign) (@e_pick))))) (And.intro (And.intro (And.intro (@e_bin) (And.intro (@e_un) (@e_conv))) (And.intro (And.intro (@e_nil) (@e_len)) (And.intro (@e_ext) (@e_fld)))) (And.intro (And.intro (@e_ixa) (And.intro (@e_call) (@e_build))) (And.intro (And.intro (@e_slice) (@e_max)) (And.intro (@e_min) (@e_fie)))))) (And.intro (And.intro (And.intro (And.intro (@e_lkp) (And.intro (@e_box) (@e_alloc))) (And.intro (And.intro (@e_store) (@e_bsl)) (And.intro (@e_msl) (@e_mfn)))) (And.intro (And.intro (@e_app) (And.intro (@e_load) (@e_mkm))) (And.intro (And.intro (@e_mup) (@e_del)) (And.intro (@e_rng) (@e_nxt))))) (And.intro (And.intro (And.intro (@e_ent) (And.intro (@q_move) (@q_assign))) (And.intro (And.intro (@q_pick) (@q_bin)) (And.intro (@q_un) (@q_conv)))) (And.intro (And.intro (And.intro (@q_nil) (@q_len)) (And.intro (@q_ext) (@q_fld))) (And.intro (And.intro (@q_ixa) (@q_call)) (And.intro (@q_build) (@q_slice))))))) (And.intro (And.intro (And.intro (And.intro (And.intro (@q_max) (And.intro (@q_min) (@q_fie))) (And.intro (And.intro (@q_lkp) (@q_load)) (And.intro (@q_bsl) (@q_app)))) (And.intro (And.intro (@q_mfn) (And.intro (@q_msl) (@List.getElem?_cons_zero.{0}))) (And.intro (And.intro (@List.getElem?_cons_succ.{0}) (@List.drop_zero.{0})) (And.intro (@List.drop_succ_cons.{0}) (@List.take_succ_cons.{0}))))) (And.intro (And.intro (And.intro (@List.take_zero.{0}) (And.intro (@List.length_cons.{0}) (@List.length_nil.{0}))) (And.intro (And.intro (@List.all_cons.{0}) (@List.all_nil.{0})) (And.intro (@Option.isSome_some.{0}) (@Option.getD_some.{0})))) (And.intro (And.intro (@List.length_replicate.{0}) (And.intro (@List.length_set.{0}) (@List.length_append.{0}))) (And.intro (And.intro (@List.length_take.{0}) (@List.length_drop.{0})) (And.intro (@List.cons_append.{0}) (@List.nil_append.{0})))))) (And.intro (And.intro (And.intro (And.intro (@List.set_cons_zero.{0}) (And.intro (@List.set_cons_succ.{0}) (@List.map_cons.{0,0}))) (And.intro (And.intro (@List.map_nil.{0,0}) (@Option.map_some.{0,0})) (And.intro (@Option.map_none.{0,0}) (@List.length_map.{0,0})))) (And.intro (And.intro (@Int.toNat_natCast) (And.intro (@Int.toNat_zero) (@Int.toNat_one))) (And.intro (And.intro (@Bool.and_true) (@Bool.and_self)) (And.intro (@Nat.mul_one) (@Nat.zero_mul))))) (And.intro (And.intro (And.intro (@Nat.zero_add) (And.intro (@Nat.add_zero) (@true_and))) (And.intro (And.intro (@and_true) (@Bool.false_eq_true)) (And.intro (@true_implies) (@false_implies)))) (And.intro (And.intro (And.intro (@Bool.true_eq_false) (@isS)) (And.intro (@sp1) (@sp2))) (And.intro (And.intro (@ppl_1) (@TKa1)) (And.intro (@TKa2) (@TKa3)))))))) (And.intro (And.intro (And.intro (And.intro (And.intro (And.intro (@TKa4) (And.intro (@TKa5) (@ish1))) (And.intro (And.intro (@ish2) (@ish3)) (And.intro (@ish4) (@uns)))) (And.intro (And.intro (@shc0) (And.intro (@shc1) (@shc2))) (And.intro (And.intro (@shc3) (@shc4)) (And.intro (@dect) (@fcb))))) (And.intro (And.intro (And.intro (@zle) (And.intro (@eqs1) (@eqs2))) (And.intro (And.intro (@eqs3) (@ix_sub)) (And.intro (@agS1) (@agS2)))) (And.intro (And.intro (@agS3) (And.intro (@agS4) (@agS5))) (And.intro (And.intro (@agS6) (@agS7)) (And.intro (@agM2) (@capsL_nil)))))) (And.intro (And.intro (And.intro (And.intro (@capsL_cons) (And.intro (@capsQ_nil) (@capsQ_cons))) (And.intro (And.intro (@ev_str) (@ws_mg)) (And.intro (@ws_e0) (@ws_mp)))) (And.intro (And.intro (@id_sv) (And.intro (@cells_mg) (@cells_mr))) (And.intro (And.intro (@cells_mp) (@pcells_mp)) (And.intro (@nz_mp) (@nz_e0))))) (And.intro (And.intro (And.intro (@one_mp) (And.intro (@one_e0) (@sone_mr))) (And.intro (And.intro (@rng0) (@lni1)) (And.intro (@lni2) (@sh_cN)))) (And.intro (And.intro (And.intro (@nz1_cN) (@one_cN)) (And.intro (@pce_cN) (@sh_cI))) (And.intro (And.intro (@nz1_cI) (@one_cI)) (And.intro (@pce_cI) (@sh_cB))))))) (And.intro (And.intro (And.intro (And.intro (And.intro (@nz1_cB) (And.intro (@one_cB) (@pce_cB))) (And.intro (And.intro (@sh_cRs) (@nz1_cRs)) (And.intro (@one_cRs) (@pce_cRs)))) (And.intro (And.intro (@sh_cTs) (And.intro (@nz1_cTs) (@one_cTs))) (And.intro (And.intro (@pce_cTs) (@sh_cQs)) (And.intro (@nz1_cQs) (@one_cQs))))) (And.intro (And.intro (And.intro (@pce_cQs) (And.intro (@sh_cRss) (@nz1_cRss))) (And.intro (And.intro (@one_cRss) (@pce_cRss)) (And.intro (@sh_vI) (@nz1_vI)))) (And.intro (And.intro (And.intro (@one_vI) (@pce_vI)) (And.intro (@sh_vB) (@nz1_vB))) (And.intro (And.intro (@one_vB) (@pce_vB)) (And.intro (@pickV.eq_def) (@unV.eq_def)))))) (And.intro (And.intro (And.intro (And.intro (@nilV.eq_def) (And.intro (@lenV.eq_def) (@mmV.eq_def))) (And.intro (And.intro (@extV.eq_def) (@loadV.eq_def)) (And.intro (@pplV.eq_def) (@fldV.eq_def)))) (And.intro (And.intro (@callV.eq_def) (And.intro (@boxV.eq_def) (@allV.eq_def))) (And.intro (And.intro (@stoV.eq_def) (@bslV.eq_def)) (And.intro (@mslV.eq_def) (@mfnV.eq_def))))) (And.intro (And.intro (And.intro (@appV.eq_def) (And.intro (@buildP.eq_def) (@capW.eq_def))) (And.intro (And.intro (@capX.eq_def) (@fieV.eq_def)) (And.intro (@lkpV.eq_def) (@mupV.eq_def)))) (And.intro (And.intro (And.intro (@delV.eq_def) (@rngV.eq_def)) (And.intro (@nxtV.eq_def) (@entV.eq_def))) (And.intro (And.intro (@litV.eq_def) (@addV.eq_def)) (And.intro (@mapOf.eq_def) (@mkP.eq_def))))))))) := And.intro (And.intro (And.intro (And.intro (And.intro (And.intro (And.intro (@b_shl_u64v) (And.intro (@b_shr_u64v) (@b_shr_u32v))) (And.intro (And.intro (@LA) (@LB)) (And.intro (@LC) (@LM)))) (And.intro (And.intro (@LW) (And.intro (@LX) (@TT))) (And.intro (And.intro (@UU) (@e_move)) (And.intro (@e_assign) (@e_pick))))) (And.intro (And.intro (And.intro (@e_bin) (And.intro (@e_un) (@e_conv))) (And.intro (And.intro (@e_nil) (@e_len)) (And.intro (@e_ext) (@e_fld)))) (And.intro (And.intro (@e_ixa) (And.intro (@e_call) (@e_build))) (And.intro (And.intro (@e_slice) (@e_max)) (And.intro (@e_min) (@e_fie)))))) (And.intro (And.intro (And.intro (And.intro (@e_lkp) (And.intro (@e_box) (@e_alloc))) (And.intro (And.intro (@e_store) (@e_bsl)) (And.intro (@e_msl) (@e_mfn)))) (And.intro (And.intro (@e_app) (And.intro (@e_load) (@e_mkm))) (And.intro (And.intro (@e_mup) (@e_del)) (And.intro (@e_rng) (@e_nxt))))) (And.intro (And.intro (And.intro (@e_ent) (And.intro (@q_move) (@q_assign))) (And.intro (And.intro (@q_pick) (@q_bin)) (And.intro (@q_un) (@q_conv)))) (And.intro (And.intro (And.intro (@q_nil) (@q_len)) (And.intro (@q_ext) (@q_fld))) (And.intro (And.intro (@q_ixa) (@q_call)) (And.intro (@q_build) (@q_slice))))))) (And.intro (And.intro (And.intro (And.intro (And.intro (@q_max) (And.intro (@q_min) (@q_fie))) (And.intro (And.intro (@q_lkp) (@q_load)) (And.intro (@q_bsl) (@q_app)))) (And.intro (And.intro (@q_mfn) (And.intro (@q_msl) (@List.getElem?_cons_zero.{0}))) (And.intro (And.intro (@List.getElem?_cons_succ.{0}) (@List.drop_zero.{0})) (And.intro (@List.drop_succ_cons.{0}) (@List.take_succ_cons.{0}))))) (And.intro (And.intro (And.intro (@List.take_zero.{0}) (And.intro (@List.length_cons.{0}) (@List.length_nil.{0}))) (And.intro (And.intro (@List.all_cons.{0}) (@List.all_nil.{0})) (And.intro (@Option.isSome_some.{0}) (@Option.getD_some.{0})))) (And.intro (And.intro (@List.length_replicate.{0}) (And.intro (@List.length_set.{0}) (@List.length_append.{0}))) (And.intro (And.intro (@List.length_take.{0}) (@List.length_drop.{0})) (And.intro (@List.cons_append.{0}) (@List.nil_append.{0})))))) (And.intro (And.intro (And.intro (And.intro (@List.set_cons_zero.{0}) (And.intro (@List.set_cons_succ.{0}) (@List.map_cons.{0,0}))) (And.intro (And.intro (@List.map_nil.{0,0}) (@Option.map_some.{0,0})) (And.intro (@Option.map_none.{0,0}) (@List.length_map.{0,0})))) (And.intro (And.intro (@Int.toNat_natCast) (And.intro (@Int.toNat_zero) (@Int.toNat_one))) (And.intro (And.intro (@Bool.and_true) (@Bool.and_self)) (And.intro (@Nat.mul_one) (@Nat.zero_mul))))) (And.intro (And.intro (And.intro (@Nat.zero_add) (And.intro (@Nat.add_zero) (@true_and))) (And.intro (And.intro (@and_true) (@Bool.false_eq_true)) (And.intro (@true_implies) (@false_implies)))) (And.intro (And.intro (And.intro (@Bool.true_eq_false) (@isS)) (And.intro (@sp1) (@sp2))) (And.intro (And.intro (@ppl_1) (@TKa1)) (And.intro (@TKa2) (@TKa3)))))))) (And.intro (And.intro (And.intro (And.intro (And.intro (And.intro (@TKa4) (And.intro (@TKa5) (@ish1))) (And.intro (And.intro (@ish2) (@ish3)) (And.intro (@ish4) (@uns)))) (And.intro (And.intro (@shc0) (And.intro (@shc1) (@shc2))) (And.intro (And.intro (@shc3) (@shc4)) (And.intro (@dect) (@fcb))))) (And.intro (And.intro (And.intro (@zle) (And.intro (@eqs1) (@eqs2))) (And.intro (And.intro (@eqs3) (@ix_sub)) (And.intro (@agS1) (@agS2)))) (And.intro (And.intro (@agS3) (And.intro (@agS4) (@agS5))) (And.intro (And.intro (@agS6) (@agS7)) (And.intro (@agM2) (@capsL_nil)))))) (And.intro (And.intro (And.intro (And.intro (@capsL_cons) (And.intro (@capsQ_nil) (@capsQ_cons))) (And.intro (And.intro (@ev_str) (@ws_mg)) (And.intro (@ws_e0) (@ws_mp)))) (And.intro (And.intro (@id_sv) (And.intro (@cells_mg) (@cells_mr))) (And.intro (And.intro (@cells_mp) (@pcells_mp)) (And.intro (@nz_mp) (@nz_e0))))) (And.intro (And.intro (And.intro (@one_mp) (And.intro (@one_e0) (@sone_mr))) (And.intro (And.intro (@rng0) (@lni1)) (And.intro (@lni2) (@sh_cN)))) (And.intro (And.intro (And.intro (@nz1_cN) (@one_cN)) (And.intro (@pce_cN) (@sh_cI))) (And.intro (And.intro (@nz1_cI) (@one_cI)) (And.intro (@pce_cI) (@sh_cB))))))) (And.intro (And.intro (And.intro (And.intro (And.intro (@nz1_cB) (And.intro (@one_cB) (@pce_cB))) (And.intro (And.intro (@sh_cRs) (@nz1_cRs)) (And.intro (@one_cRs) (@pce_cRs)))) (And.intro (And.intro (@sh_cTs) (And.intro (@nz1_cTs) (@one_cTs))) (And.intro (And.intro (@pce_cTs) (@sh_cQs)) (And.intro (@nz1_cQs) (@one_cQs))))) (And.intro (And.intro (And.intro (@pce_cQs) (And.intro (@sh_cRss) (@nz1_cRss))) (And.intro (And.intro (@one_cRss) (@pce_cRss)) (And.intro (@sh_vI) (@nz1_vI)))) (And.intro (And.intro (And.intro (@one_vI) (@pce_vI)) (And.intro (@sh_vB) (@nz1_vB))) (And.intro (And.intro (@one_vB) (@pce_vB)) (And.intro (@pickV.eq_def) (@unV.eq_def)))))) (And.intro (And.intro (And.intro (And.intro (@nilV.eq_def) (And.intro (@lenV.eq_def) (@mmV.eq_def))) (And.intro (And.intro (@extV.eq_def) (@loadV.eq_def)) (And.intro (@pplV.eq_def) (@fldV.eq_def)))) (And.intro (And.intro (@callV.eq_def) (And.intro (@boxV.eq_def) (@allV.eq_def))) (And.intro (And.intro (@stoV.eq_def) (@bslV.eq_def)) (And.intro (@mslV.eq_def) (@mfnV.eq_def))))) (And.intro (And.intro (And.intro (@appV.eq_def) (And.intro (@buildP.eq_def) (@capW.eq_def))) (And.intro (And.intro (@capX.eq_def) (@fieV.eq_def)) (And.intro (@lkpV.eq_def) (@mupV.eq_def)))) (And.intro (And.intro (And.intro (@delV.eq_def) (@rngV.eq_def)) (And.intro (@nxtV.eq_def) (@entV.eq_def))) (And.intro (And.intro (@litV.eq_def) (@addV.eq_def)) (And.intro (@mapOf.eq_def) (@mkP.eq_def))))))))
theorem AC : type_of% (And.intro (And.intro (@LSH) (@w_i64)) (And.intro (@w_u64) (And.intro (@w_u32) (@w_u8)))) := And.intro (And.intro (@LSH) (@w_i64)) (And.intro (@w_u64) (And.intro (@w_u32) (@w_u8)))
theorem AM : type_of% (And.intro (@m_u64) (And.intro (@m_u32) (@m_u8))) := And.intro (@m_u64) (And.intro (@m_u32) (@m_u8))
theorem HS : type_of% (And.intro (And.intro (And.intro (And.intro (@bne_iff_ne Int _ _) (@beq_iff_eq Int _ _)) (And.intro (@bne_iff_ne Bool _ _) (And.intro (@beq_iff_eq Bool _ _) (@ne_eq Int)))) (And.intro (And.intro (@ne_eq Bool) (@decide_eq_true_eq)) (And.intro (@decide_eq_false_iff_not) (And.intro (@bne_eq_false_iff_eq Int _ _) (@beq_eq_false_iff_ne Int _ _))))) (And.intro (And.intro (And.intro (@bne_eq_false_iff_eq Bool _ _) (@beq_eq_false_iff_ne Bool _ _)) (And.intro (@Int.not_lt) (And.intro (@Int.not_le) (@Decidable.not_not)))) (And.intro (And.intro (@Bool.true_eq_false) (And.intro (@Bool.false_eq_true) (@Bool.not_eq_true'))) (And.intro (@Bool.not_eq_false') (And.intro (@Bool.not_true) (@Bool.not_false)))))) := And.intro (And.intro (And.intro (And.intro (@bne_iff_ne Int _ _) (@beq_iff_eq Int _ _)) (And.intro (@bne_iff_ne Bool _ _) (And.intro (@beq_iff_eq Bool _ _) (@ne_eq Int)))) (And.intro (And.intro (@ne_eq Bool) (@decide_eq_true_eq)) (And.intro (@decide_eq_false_iff_not) (And.intro (@bne_eq_false_iff_eq Int _ _) (@beq_eq_false_iff_ne Int _ _))))) (And.intro (And.intro (And.intro (@bne_eq_false_iff_eq Bool _ _) (@beq_eq_false_iff_ne Bool _ _)) (And.intro (@Int.not_lt) (And.intro (@Int.not_le) (@Decidable.not_not)))) (And.intro (And.intro (@Bool.true_eq_false) (And.intro (@Bool.false_eq_true) (@Bool.not_eq_true'))) (And.intro (@Bool.not_eq_false') (And.intro (@Bool.not_true) (@Bool.not_false)))))
end Go.Pw
set_option maxRecDepth 100000
set_option linter.unusedVariables false
set_option linter.unusedSimpArgs false
namespace Go.Pw
open Go.RowKit Go.Proofs
theorem run_eqGuard_slice {P : Program} {op : BinOp} {T : Nat} {x y : Operand} {p q : Option Addr} {n c n' c' : Nat} (w : World) : (eqGuard op T x y (.slice p n c) (.slice q n' c')).run P w = .ok () w := by
 unfold eqGuard; cases op <;> simp
theorem nil_eq {E : Env} {o : Oper} {σ : St} {K : SV → St → Prop} {T T2 e : Nat} {x : Operand} {i : TI} {rows : List (List PV)} (ho : o.op = .binOp .eql T x (.const (.slice none 0 0)) T2) (hT : E.tt T = some i) (hi : i.kind = .sl e) (hx : σ.ev E x = .sh (.sl rows))
   (h1 : rows = [] → K (.sh (.val (.bool true))) σ) (h2 : K (.sh (.val (.bool false))) σ) : SemOp E o σ K := by
 intro w0 A0 a w loc Q h hd
 have hxv := ev_ok h x
 rw [hx] at hxv
 have hty := (E.ok T i hT).kind
 rw [hi] at hty
 have key : ∀ (p : Option Addr) (n c : Nat), a.eval x = .slice p n c → (execOp a.eval o).run E.P w = .ok (.value (.bool p.isNone)) w := fun p n c hv => by
   have hc : a.eval (.const (.slice none 0 0)) = .slice none 0 0 := rfl
   simp only [execOp, ho, hv, hc, Sem.run_bind, run_eqGuard_slice, Result.andThen_ok, Lib.run_eql_slice_nil w T e p n c 0 0 hty, Sem.run_pure]
 rcases hxv.sh_inv.sl_inv with ⟨rfl, p, c, hv, _⟩ | ⟨b, off, c, sz, f, hv, _⟩
 · cases p with
   | none => exact EGives.run hd (Trk.refl _ _) (key _ _ _ hv) h (.sh (.val _)) (h1 rfl)
   | some q => exact EGives.run hd (Trk.refl _ _) (key _ _ _ hv) h (.sh (.val _)) h2
 · exact EGives.run hd (Trk.refl _ _) (key _ _ _ hv) h (.sh (.val _)) h2
def isSl : Op → Bool
 | .slice .. => true
 | _ => false
theorem p_slM {E : Env} {ops : Array Oper} {K : St → Prop} {σ : St} {o : Oper} {rest : List Oper} (hs : isSl o.op = true) (h : pops E ops (o :: rest) K σ) : pops E ops (o :: rest) K σ := h
theorem g_op0 {E : Env} {ops : Array Oper} {R : List (List Nat)} {K : St → Prop} {σ : St} {o : Oper} {rest : List Oper} (hg : o.guard = none) (h : ∀ K' : St → Prop, (∀ τ, ptl E ops R rest K τ → K' τ) → epop E o.dst o.op σ fun x τ => K' (τ.put o.dst x)) : ptl E ops ([] :: R) (o :: rest) K σ := by
 simp only [ptl, hg]
 exact .inl (h (fun τ => chks E ops (([] :: R).headD []) τ ∧ ptl E ops ([] :: R).tail rest K τ) fun τ h => ⟨trivial, h⟩)
theorem g_opC {E : Env} {ops : Array Oper} {R : List (List Nat)} {K : St → Prop} {σ : St} {o : Oper} {rest : List Oper} {i : Nat} {l : List Nat} (hg : o.guard = none) (h : ∀ K' : St → Prop, (∀ τ, (chks E ops (i :: l) τ ∧ ptl E ops R rest K τ) → K' τ) → epop E o.dst o.op σ fun x τ => K' (τ.put o.dst x)) : ptl E ops ((i :: l) :: R) (o :: rest) K σ := by
 simp only [ptl, hg]
 exact .inl (h (fun τ => chks E ops (((i :: l) :: R).headD []) τ ∧ ptl E ops ((i :: l) :: R).tail rest K τ) fun τ h => h)
theorem recS_mk (e : List (Nat × SV)) (o : List (Nat × Option Ob)) (d : Nat) (vs : List Value) : recS (mkS e o) (d, vs) = mkS ((d, .bp d 0) :: mapE (SV.kill d) e) ((d, some (.box (vs.map fun v => .sh (.val v)))) :: mapO (Ob.kill d) o) := by
 simp only [recS, make_mk, put_some]
end Go.Pw
set_option maxRecDepth 100000
namespace Go.Pw
open Go Go.Proofs
theorem resc1 (E : Env) (t T : Nat) (e : List (Nat × SV)) (o : List (Nat × Option Ob)) (d : PV) : rq E [.cell t T] d .ret (mkS e o) = loadV E T (.tmp t) (E.tt T) (getS e t) (mkS e o) fun x τ => withSh false τ x fun d' _ => d' = d := rfl
theorem resc2 (E : Env) (t T u : Nat) (e : List (Nat × SV)) (o : List (Nat × Option Ob)) (d : PV) : rq E [.cell t T, .tmp u] d .ret (mkS e o) = loadV E T (.tmp t) (E.tt T) (getS e t) (mkS e o) fun x τ => withSh false τ x fun d1 υ => withSh false υ (υ.s u) fun d2 _ => .tup [d1, d2] = d := rfl
theorem rescc (E : Env) (t T u U : Nat) (e : List (Nat × SV)) (o : List (Nat × Option Ob)) (d : PV) : rq E [.cell t T, .cell u U] d .ret (mkS e o) = loadV E T (.tmp t) (E.tt T) (getS e t) (mkS e o) fun x τ => withSh false τ x fun d1 υ => loadV E U (.tmp u) (E.tt U) (υ.s u) υ fun y φ => withSh false φ y fun d2 _ => .tup [d1, d2] = d := rfl
theorem rest1c (E : Env) (t u U : Nat) (e : List (Nat × SV)) (o : List (Nat × Option Ob)) (d : PV) : rq E [.tmp t, .cell u U] d .ret (mkS e o) = withSh false (mkS e o) (getS e t) fun d1 υ => loadV E U (.tmp u) (E.tt U) (υ.s u) υ fun y φ => withSh false φ y fun d2 _ => .tup [d1, d2] = d := rfl
theorem kOk_st (E : Env) (fs : List (Nat × Nat)) : kOk E (.st fs) = fs.all fun p => (E.tt p.2).isSome := rfl
theorem kOk_ar (E : Env) (n e : Nat) : kOk E (.ar n e) = (E.tt e).isSome := rfl
def bcV (p : Option (Nat × Nat)) (y : Option (List PV)) (cs : List PV) (K : List PV → Prop) : Prop := match p, y with
 | some (off, size), some ys => ys.length = size ∧ off + size ≤ cs.length ∧ ys.all PV.one = true ∧ K (spliceP cs off ys)
 | _, _ => False
theorem bc_nil (place : Nat → Option (Nat × Nat)) (cs : List PV) (K : List PV → Prop) : buildC place cs [] K = K cs := rfl
theorem bc_cons (place : Nat → Option (Nat × Nat)) (cs : List PV) (i : Nat) (d : PV) (rest : List (Nat × PV)) (K : List PV → Prop) : buildC place cs ((i, d) :: rest) K = bcV (place i) d.cells cs fun cs => buildC place cs rest K := by
 simp only [buildC, bcV]
 rcases place i with _ | ⟨a, b⟩ <;> cases d.cells <;> rfl
theorem bcV_some (off size : Nat) (ys cs : List PV) (K : List PV → Prop) : bcV (some (off, size)) (some ys) cs K = (ys.length = size ∧ off + size ≤ cs.length ∧ ys.all PV.one = true ∧ K (spliceP cs off ys)) := rfl
def plV (E : Env) (x : Option (Nat × Nat)) : Option (Nat × Nat) := match x with
 | some (o, ft) => (E.tt ft).map fun j => (o, j.size)
 | none => none
theorem place_st (E : Env) (fs : List (Nat × Nat)) (i : Nat) : placeOf E (.st fs) i = plV E fs[i]? := rfl
theorem plV_some (E : Env) (o ft : Nat) : plV E (some (o, ft)) = (E.tt ft).map fun j => (o, j.size) := rfl
theorem place_ar (E : Env) (n e i : Nat) : placeOf E (.ar n e) i = (E.tt e).map fun j => (i * j.size, j.size) := rfl
theorem b_eqb4 (a b : Bool) (K : Value → Prop) : binV E .eql 4 (.sh (.val (.bool a))) (.sh (.val (.bool b))) K = K (.bool (a == b)) := by simp [binV, TT]
theorem b_neb4 (a b : Bool) (K : Value → Prop) : binV E .neq 4 (.sh (.val (.bool a))) (.sh (.val (.bool b))) K = K (.bool (!(a == b))) := by simp [binV, TT]
theorem AD : type_of% (And.intro @b_eqb4 (And.intro @b_neb4 (And.intro @kOk_st (And.intro @kOk_ar (And.intro @bc_nil (And.intro @bc_cons (And.intro @bcV_some (And.intro @place_st (And.intro @plV_some (And.intro @place_ar (And.intro @List.zip_cons_cons.{0,0} (And.intro @List.zip_nil_left.{0,0} @Bool.true_and)))))))))))) := And.intro @b_eqb4 (And.intro @b_neb4 (And.intro @kOk_st (And.intro @kOk_ar (And.intro @bc_nil (And.intro @bc_cons (And.intro @bcV_some (And.intro @place_st (And.intro @plV_some (And.intro @place_ar (And.intro @List.zip_cons_cons.{0,0} (And.intro @List.zip_nil_left.{0,0} @Bool.true_and)))))))))))
end Go.Pw
