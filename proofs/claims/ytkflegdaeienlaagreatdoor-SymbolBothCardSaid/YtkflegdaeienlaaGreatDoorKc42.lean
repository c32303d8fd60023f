/- Merged from the working texts PxK PxL. -/
import Derived.Shelf.Strings.Builder1
import Derived.WalkKit
import Derived.BigCall
import Derived.Test.YtkflegdaeienlaaGreatDoorChecked
import Derived.Test.YtkflegdaeienlaaGreatDoorKc16
set_option linter.all false
set_option maxHeartbeats 400000
set_option linter.unusedVariables false
set_option linter.unusedSimpArgs false
namespace Go.Proofs
open Go.Shelf Go.RowKit
def Tryz.kren : Ren := { f := fun x => match x with | 128 => 295 | 129 => 296 | 167 => 233 | 169 => 234 | 240 => 266 | 276 => 286 | n => n, t := fun x => match x with | 37 => 238 | 46 => 51 | 51 => 103 | 53 => 136 | 70 => 237 | 72 => 240 | 75 => 242 | 80 => 244 | 127 => 267 | 164 => 280 | n => n, g := fun n => n }
theorem Tryz.k167 : Lays.n167 Tryz.prog Tryz.kren := { mixed := by kernel_rfl, f167 := by kernel_rfl, f240 := by kernel_rfl, f276 := by kernel_rfl, t0 := Tryz.underlying0, a0 := Tryz.isAgg0, z0 := Tryz.sizeOf0, v0 := Tryz.zeroValue0, t4 := Tryz.underlying4, a4 := Tryz.isAgg4, z4 := Tryz.sizeOf4, v4 := Tryz.zeroValue4, t5 := Tryz.underlying5, a5 := Tryz.isAgg5, z5 := Tryz.sizeOf5, v5 := Tryz.zeroValue5, t9 := Tryz.underlying9, a9 := Tryz.isAgg9, z9 := Tryz.sizeOf9, v9 := Tryz.zeroValue9, t20 := Tryz.underlying20, a20 := Tryz.isAgg20, z20 := Tryz.sizeOf20, v20 := Tryz.zeroValue20, t37 := Tryz.underlying238, a37 := Tryz.isAgg238, z37 := Tryz.sizeOf238, v37 := Tryz.zeroValue238, t70 := Tryz.underlying237, a70 := Tryz.isAgg237, z70 := Tryz.sizeOf237, v70 := Tryz.zeroValue237, t72 := Tryz.underlying240, a72 := Tryz.isAgg240, z72 := Tryz.sizeOf240, v72 := Tryz.zeroValue240, t75 := Tryz.underlying242, a75 := Tryz.isAgg242, z75 := Tryz.sizeOf242, v75 := Tryz.zeroValue242, t164 := Tryz.underlying280, a164 := Tryz.isAgg280, z164 := Tryz.sizeOf280, v164 := Tryz.zeroValue280 }
theorem Tryz.k169 : Lays.n169 Tryz.prog Tryz.kren := { mixed := by kernel_rfl, f169 := by kernel_rfl, t0 := Tryz.underlying0, a0 := Tryz.isAgg0, z0 := Tryz.sizeOf0, v0 := Tryz.zeroValue0, t3 := Tryz.underlying3, a3 := Tryz.isAgg3, z3 := Tryz.sizeOf3, v3 := Tryz.zeroValue3, t9 := Tryz.underlying9, a9 := Tryz.isAgg9, z9 := Tryz.sizeOf9, v9 := Tryz.zeroValue9, t37 := Tryz.underlying238, a37 := Tryz.isAgg238, z37 := Tryz.sizeOf238, v37 := Tryz.zeroValue238, t70 := Tryz.underlying237, a70 := Tryz.isAgg237, z70 := Tryz.sizeOf237, v70 := Tryz.zeroValue237, t72 := Tryz.underlying240, a72 := Tryz.isAgg240, z72 := Tryz.sizeOf240, v72 := Tryz.zeroValue240, t127 := Tryz.underlying267, a127 := Tryz.isAgg267, z127 := Tryz.sizeOf267, v127 := Tryz.zeroValue267 }
theorem Tryz.kX : Builder.Extra Tryz.prog Tryz.kren where
 sizeBuilder := by kernel_rfl
 liesBuilder := by kernel_rfl
 t5 := Tryz.underlying5
 a5 := Tryz.isAgg5
 z5 := Tryz.sizeOf5
 v5 := Tryz.zeroValue5
 infoByte := by kernel_rfl
 cellsByte := by kernel_rfl
 sizeByte := by kernel_rfl
 neB5 := by decide
theorem Tryz.WriteByte (B b : Nat) (bs : List Value) (c : Int) (w : World) (h : Lib.IsBuilder 240 5 B b bs w) (hlen : bs.length + 1 ≤ 140737488355328) (hBw : B ≤ w.heap.size) :
   Calls Tryz.prog 233 #[.pointer (some ⟨b, 0, none⟩), .int .u8 c] w fun e w' => e = .returned .nilIface ∧ (Lib.BuilderAt 240 5 B b (.pointer (some ⟨b, 0, none⟩)) (bs ++ [.int .u8 c]) w' ∧ Below B w w') := Any.Builder_WriteByte Tryz.k167 Tryz.kX B b bs c w h hlen hBw
theorem Tryz.BString (B b : Nat) (l : List UInt8) (w : World) (h : Lib.IsBuilder 240 5 B b (Lib.byteCells l) w) (hBw : B ≤ w.heap.size) :
   Calls Tryz.prog 234 #[.pointer (some ⟨b, 0, none⟩)] w fun e w' => e = .returned (.string ⟨l.toArray⟩) ∧ Below B w w' := Any.Builder_String_any Tryz.k169 Tryz.kX B b l w h hBw
def kbytes (n : Nat) : List UInt8 := [UInt8.ofNat (n / 65536), UInt8.ofNat (n / 256), UInt8.ofNat n]
def kl (ns : List Nat) : List UInt8 := ns.flatMap kbytes
theorem kl_length : ∀ ns : List Nat, (kl ns).length = 3 * ns.length
 | [] => rfl
 | n :: ns => by
   have := kl_length ns
   simp only [kl, List.flatMap_cons, List.length_append, List.length_cons] at this ⊢
   rw [this]; simp [kbytes]; omega
set_option maxHeartbeats 4000000 in
set_option maxRecDepth 1000000 in
theorem Tryz.key_walk (ns : List Nat) (b o cap : Nat) (w : World) (hn : ns.length ≤ 1099511627776) (hcap : ns.length ≤ cap) (hcell : ∀ i n : Nat, ns[i]? = some n → w.cell? ⟨b, o + i, none⟩ = some (.int .i64 (n : Int))) (hsm : ∀ n ∈ ns, n < 16777216) :
   Calls Tryz.prog 176 #[.slice (some ⟨b, o, none⟩) ns.length cap] w fun e w' => e = .returned (.string ⟨(kl ns).toArray⟩) ∧ Below w.heap.size w w' := by
 go_enter Tryz.func176, Tryz.ntmps176
 go_wp2
 go_loopw [8] (fun v wr => ∃ k : Nat, k ≤ ns.length ∧ v = .int .i64 k ∧ Lib.IsBuilder 240 5 w.heap.size w.heap.size (Lib.byteCells (kl (ns.take k))) wr ∧ Below w.heap.size w wr) (fun v _ => ns.length - (intOf v).toNat)
 case atStart => exact ⟨0, by omega, rfl, Lib.fresh_isBuilder 240 5 w, (Below.refl _ w).alloc (Nat.le_refl _) _⟩
 case round =>
   obtain ⟨k, hk, rfl, hI, hbw⟩ := hrel
   by_cases hlt : k < ns.length
   · obtain ⟨n, hn1⟩ : ∃ n, ns[k]? = some n := ⟨_, List.getElem?_eq_getElem hlt⟩
     have hcw := hcell k n hn1
     have hbs : b < w.heap.size := World.block_lt_of_cell? w _ hcw
     have hcr : wr.cell? ⟨b, o + k, none⟩ = some (.int .i64 (n : Int)) := by rw [hbw.cell (p := ⟨b, o + k, none⟩) hbs]; exact hcw
     have hn2 := hsm n (List.mem_of_getElem? hn1)
     have hsz : w.heap.size ≤ wr.heap.size := hbw.size
     have hl := kl_length (ns.take k)
     have hl2 : (ns.take k).length = k := by simp; omega
     clear hcell
     go_wp2_with (go_at_call 233; refine (Tryz.WriteByte w.heap.size w.heap.size _ _ _ hI (by rw [Lib.byteCells_length]; omega) hsz).mono ?_)
     rintro e W1 ⟨rfl, h1, b1⟩
     have hsz1 := b1.size
     go_wp2_with (go_at_call 233; refine (Tryz.WriteByte w.heap.size w.heap.size _ _ _ (Or.inr h1) (by rw [List.length_append, Lib.byteCells_length]; simp only [List.length_cons, List.length_nil]; omega) (by omega)).mono ?_)
     rintro e W2 ⟨rfl, h2, b2⟩
     have hsz2 := b2.size
     go_wp2_with (go_at_call 233; refine (Tryz.WriteByte w.heap.size w.heap.size _ _ _ (Or.inr h2) (by rw [List.length_append, List.length_append, Lib.byteCells_length]; simp only [List.length_cons, List.length_nil]; omega) (by omega)).mono ?_)
     rintro e W3 ⟨rfl, h3, b3⟩
     go_wp2
     go_roundw
     case rel =>
       refine ⟨k + 1, by omega, by go_num, ?_, ((hbw.trans b1).trans b2).trans b3⟩
       have e1 : kl (ns.take (k + 1)) = kl (ns.take k) ++ kbytes n := by
         rw [List.take_add_one, hn1]
         simp [kl]
       rw [e1, Lib.byteCells_append]
       refine Or.inr ?_
       have e2 : Lib.byteCells (kbytes n) = [Value.int .u8 ((n : Int) / 65536), Value.int .u8 ((n : Int) / 256 % 256), Value.int .u8 ((n : Int) % 256)] := by
         simp only [kbytes, Lib.byteCells, List.map_cons, List.map_nil, UInt8.toNat_ofNat', Nat.reducePow]
         have a1 : ((n / 65536 % 256 : Nat) : Int) = (n : Int) / 65536 := by omega
         have a2 : ((n / 256 % 256 : Nat) : Int) = (n : Int) / 256 % 256 := by omega
         have a3 : ((n % 256 : Nat) : Int) = (n : Int) % 256 := by omega
         rw [a1, a2, a3]
       rw [e2]
       simpa only [List.append_assoc, List.cons_append, List.nil_append] using h3
     case measure => simp [intOf]; omega
   · have hke : k = ns.length := by omega
     subst hke
     rw [List.take_length] at hI
     go_wp2_with (go_at_call 234; refine (Tryz.BString w.heap.size w.heap.size _ _ hI hbw.size).mono ?_)
     rintro e W1 ⟨rfl, b1⟩
     go_wp2
     go_ret
     exact ⟨rfl, hbw.trans b1⟩
end Go.Proofs
set_option maxRecDepth 100000
set_option linter.unusedVariables false
namespace Go.Pw
open Go Go.Proofs Go.RowKit
def cE (ns : List Nat) : PV := .sl (ns.map fun n : Nat => [.val (.int .i64 (n : Int))])
theorem con_key (ns : List Nat) (h0 : ns ≠ []) (hlen : ns.length ≤ 1099511627776) (hsm : ∀ n ∈ ns, n < 16777216) : Con E 176 [cE ns] (.val (.string ⟨(kl ns).toArray⟩)) := by
  refine ⟨fun vs w => ?_, fun w A vs hn hR hA hG => ?_⟩
  · have h1 : Tryz.f176.name ≠ "runtime.NumGoroutine" := by decide
    have hb : ∃ c, Tryz.f176.body = some c := ⟨_, rfl⟩
    obtain ⟨c, hb⟩ := hb
    have hf : E.P.funcs[176]? = some Tryz.f176 := Tryz.func176
    simp [callFunc, hf, h1, hb]
  · have h1 := hR 0 _ rfl
    have hvs : vs = #[vs.getD 0 undef] := by
      apply Array.ext (by simpa using hn)
      intro i hi hi'
      have : i = 0 := by simp at hi'; omega
      subst this
      simp [Array.getD, hi]
    generalize vs.getD 0 undef = v at h1 hvs
    subst hvs
    have hpos : 0 < ns.length := List.length_pos_iff.2 h0
    rcases h1.sl_inv with ⟨he, _⟩ | ⟨b, off, c, sz, f, hv, hp, hsz, hc, hm, hAb, hz, hcell, hone, hr⟩
    · exact absurd (List.map_eq_nil_iff.1 he) h0
    · subst hv
      have hsz1 : sz = 1 := by
        obtain ⟨n, hn1⟩ : ∃ n, ns[0]? = some n := ⟨_, List.getElem?_eq_getElem hpos⟩
        have := hz [.val (.int .i64 (n : Int))] (List.mem_map.2 ⟨n, List.mem_of_getElem? hn1, rfl⟩)
        simpa using this.symm
      subst hsz1
      have hl : (ns.map fun n : Nat => [PV.val (.int .i64 (n : Int))]).length = ns.length := by simp
      rw [hl] at hc ⊢
      refine (Tryz.key_walk ns b off c w hlen hc (fun i n hi => ?_) hsm).mono ?_
      · have hil := (List.getElem?_eq_some_iff.1 hi).1
        have h2 := hcell i 0 (by rw [hl]; exact hil) (by omega)
        have h3 := hr i 0 [.val (.int .i64 (n : Int))] (.val (.int .i64 (n : Int))) (by rw [List.getElem?_map, hi]; rfl) rfl
        have h4 : f i 0 = .int .i64 (n : Int) := (RS.sh (loc := fun _ => undef) h3).val_eq
        rw [h4, Nat.mul_one, Nat.add_zero] at h2
        exact h2
      · rintro e w' ⟨rfl, hb⟩
        exact ⟨_, rfl, .val _, hb⟩
end Go.Pw
