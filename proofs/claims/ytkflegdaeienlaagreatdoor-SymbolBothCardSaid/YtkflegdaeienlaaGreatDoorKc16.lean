/- Merged from the working texts PwT PwV. -/
import Derived.Test.YtkflegdaeienlaaGreatDoorKc15
import Derived.Test.YtkflegdaeienlaaGreatDoorProg
import Derived.KernelRfl
set_option linter.all false
set_option maxHeartbeats 400000
set_option maxRecDepth 100000
namespace Go.Pw
open Go Go.Proofs
theorem st_of {P : Program} {t : Nat} {fs : List (Nat × Nat)} (h : ((P.underlying t).map fun d => match d with | .struct F => some (F.toList.map fun f => (f.offset, f.type)) | _ => none) = some (some fs)) : ∃ F, P.underlying t = some (.struct F) ∧ F.toList.map (fun f => (f.offset, f.type)) = fs := by
 obtain ⟨d, hd, he⟩ := Option.map_eq_some_iff.1 h
 cases d <;> simp at he
 exact ⟨_, hd, he⟩
def ti3 : TI := { size := 1, bytes := 8, zero := [.int .i64 0], kind := .ot }
theorem tok3 : TOk Tryz.prog 3 ti3 := ⟨by kernel_rfl, by kernel_rfl, by kernel_rfl, rfl, rfl, by decide, (by kernel_rfl : ((Tryz.prog.underlying 3).map fun d => match d with | .struct _ | .array _ _ => false | _ => true) = some true)⟩
def ti4 : TI := { size := 1, bytes := 1, zero := [.bool false], kind := .bo }
theorem tok4 : TOk Tryz.prog 4 ti4 := ⟨by kernel_rfl, by kernel_rfl, by kernel_rfl, rfl, rfl, by decide, (by kernel_rfl : Tryz.prog.underlying 4 = some .bool)⟩
def ti5 : TI := { size := 1, bytes := 1, zero := [.int .u8 0], kind := .ot }
theorem tok5 : TOk Tryz.prog 5 ti5 := ⟨by kernel_rfl, by kernel_rfl, by kernel_rfl, rfl, rfl, by decide, (by kernel_rfl : ((Tryz.prog.underlying 5).map fun d => match d with | .struct _ | .array _ _ => false | _ => true) = some true)⟩
def ti9 : TI := { size := 1, bytes := 16, zero := [.string ByteArray.empty], kind := .ot }
theorem tok9 : TOk Tryz.prog 9 ti9 := ⟨by kernel_rfl, by kernel_rfl, by kernel_rfl, rfl, rfl, by decide, (by kernel_rfl : ((Tryz.prog.underlying 9).map fun d => match d with | .struct _ | .array _ _ => false | _ => true) = some true)⟩
def ti21 : TI := { size := 1, bytes := 4, zero := [.int .i32 0], kind := .ot }
theorem tok21 : TOk Tryz.prog 21 ti21 := ⟨by kernel_rfl, by kernel_rfl, by kernel_rfl, rfl, rfl, by decide, (by kernel_rfl : ((Tryz.prog.underlying 21).map fun d => match d with | .struct _ | .array _ _ => false | _ => true) = some true)⟩
def ti22 : TI := { size := 1, bytes := 24, zero := [.slice none 0 0], kind := .sl 90 }
theorem tok22 : TOk Tryz.prog 22 ti22 := ⟨by kernel_rfl, by kernel_rfl, by kernel_rfl, rfl, rfl, by decide, (by kernel_rfl : Tryz.prog.underlying 22 = some (.slice 90))⟩
def ti23 : TI := { size := 1, bytes := 24, zero := [.slice none 0 0], kind := .sl 3 }
theorem tok23 : TOk Tryz.prog 23 ti23 := ⟨by kernel_rfl, by kernel_rfl, by kernel_rfl, rfl, rfl, by decide, (by kernel_rfl : Tryz.prog.underlying 23 = some (.slice 3))⟩
def ti25 : TI := { size := 3, bytes := 56, zero := [.int .i64 0, .slice none 0 0, .slice none 0 0], kind := .st [(0, 3), (1, 22), (2, 23)] }
theorem tok25 : TOk Tryz.prog 25 ti25 := ⟨by kernel_rfl, by kernel_rfl, by kernel_rfl, rfl, rfl, by decide, (st_of (by kernel_rfl) : ∃ F, Tryz.prog.underlying 25 = some (.struct F) ∧ F.toList.map (fun f => (f.offset, f.type)) = [(0, 3), (1, 22), (2, 23)])⟩
def ti26 : TI := { size := 1, bytes := 24, zero := [.slice none 0 0], kind := .sl 80 }
theorem tok26 : TOk Tryz.prog 26 ti26 := ⟨by kernel_rfl, by kernel_rfl, by kernel_rfl, rfl, rfl, by decide, (by kernel_rfl : Tryz.prog.underlying 26 = some (.slice 80))⟩
def ti29 : TI := { size := 1, bytes := 8, zero := [.int .i64 0], kind := .ot }
theorem tok29 : TOk Tryz.prog 29 ti29 := ⟨by kernel_rfl, by kernel_rfl, by kernel_rfl, rfl, rfl, by decide, (by kernel_rfl : ((Tryz.prog.underlying 29).map fun d => match d with | .struct _ | .array _ _ => false | _ => true) = some true)⟩
def ti33 : TI := { size := 1, bytes := 24, zero := [.slice none 0 0], kind := .sl 26 }
theorem tok33 : TOk Tryz.prog 33 ti33 := ⟨by kernel_rfl, by kernel_rfl, by kernel_rfl, rfl, rfl, by decide, (by kernel_rfl : Tryz.prog.underlying 33 = some (.slice 26))⟩
def ti36 : TI := { size := 1, bytes := 24, zero := [.slice none 0 0], kind := .sl 48 }
theorem tok36 : TOk Tryz.prog 36 ti36 := ⟨by kernel_rfl, by kernel_rfl, by kernel_rfl, rfl, rfl, by decide, (by kernel_rfl : Tryz.prog.underlying 36 = some (.slice 48))⟩
def ti44 : TI := { size := 1, bytes := 24, zero := [.slice none 0 0], kind := .sl 115 }
theorem tok44 : TOk Tryz.prog 44 ti44 := ⟨by kernel_rfl, by kernel_rfl, by kernel_rfl, rfl, rfl, by decide, (by kernel_rfl : Tryz.prog.underlying 44 = some (.slice 115))⟩
def ti46 : TI := { size := 2, bytes := 32, zero := [.int .i64 0, .slice none 0 0], kind := .st [(0, 3), (1, 44)] }
theorem tok46 : TOk Tryz.prog 46 ti46 := ⟨by kernel_rfl, by kernel_rfl, by kernel_rfl, rfl, rfl, by decide, (st_of (by kernel_rfl) : ∃ F, Tryz.prog.underlying 46 = some (.struct F) ∧ F.toList.map (fun f => (f.offset, f.type)) = [(0, 3), (1, 44)])⟩
def ti48 : TI := { size := 4, bytes := 64, zero := [.int .i64 0, .slice none 0 0, .int .i64 0, .slice none 0 0], kind := .st [(0, 46), (2, 46)] }
theorem tok48 : TOk Tryz.prog 48 ti48 := ⟨by kernel_rfl, by kernel_rfl, by kernel_rfl, rfl, rfl, by decide, (st_of (by kernel_rfl) : ∃ F, Tryz.prog.underlying 48 = some (.struct F) ∧ F.toList.map (fun f => (f.offset, f.type)) = [(0, 46), (2, 46)])⟩
def ti51 : TI := { size := 1, bytes := 8, zero := [.int .u64 0], kind := .ot }
theorem tok51 : TOk Tryz.prog 51 ti51 := ⟨by kernel_rfl, by kernel_rfl, by kernel_rfl, rfl, rfl, by decide, (by kernel_rfl : ((Tryz.prog.underlying 51).map fun d => match d with | .struct _ | .array _ _ => false | _ => true) = some true)⟩
def ti78 : TI := { size := 1, bytes := 24, zero := [.slice none 0 0], kind := .sl 103 }
theorem tok78 : TOk Tryz.prog 78 ti78 := ⟨by kernel_rfl, by kernel_rfl, by kernel_rfl, rfl, rfl, by decide, (by kernel_rfl : Tryz.prog.underlying 78 = some (.slice 103))⟩
def ti80 : TI := { size := 4, bytes := 64, zero := [.int .i64 0, .bool false, .slice none 0 0, .slice none 0 0], kind := .st [(0, 29), (1, 4), (2, 78), (3, 78)] }
theorem tok80 : TOk Tryz.prog 80 ti80 := ⟨by kernel_rfl, by kernel_rfl, by kernel_rfl, rfl, rfl, by decide, (st_of (by kernel_rfl) : ∃ F, Tryz.prog.underlying 80 = some (.struct F) ∧ F.toList.map (fun f => (f.offset, f.type)) = [(0, 29), (1, 4), (2, 78), (3, 78)])⟩
def ti90 : TI := { size := 7, bytes := 88, zero := [.int .i64 0, .int .i64 0, .int .i64 0, .int .i64 0, .bool false, .slice none 0 0, .slice none 0 0], kind := .st [(0, 3), (1, 3), (2, 3), (3, 80)] }
theorem tok90 : TOk Tryz.prog 90 ti90 := ⟨by kernel_rfl, by kernel_rfl, by kernel_rfl, rfl, rfl, by decide, (st_of (by kernel_rfl) : ∃ F, Tryz.prog.underlying 90 = some (.struct F) ∧ F.toList.map (fun f => (f.offset, f.type)) = [(0, 3), (1, 3), (2, 3), (3, 80)])⟩
def ti101 : TI := { size := 1, bytes := 24, zero := [.slice none 0 0], kind := .sl 36 }
theorem tok101 : TOk Tryz.prog 101 ti101 := ⟨by kernel_rfl, by kernel_rfl, by kernel_rfl, rfl, rfl, by decide, (by kernel_rfl : Tryz.prog.underlying 101 = some (.slice 36))⟩
def ti103 : TI := { size := 1, bytes := 4, zero := [.int .u32 0], kind := .ot }
theorem tok103 : TOk Tryz.prog 103 ti103 := ⟨by kernel_rfl, by kernel_rfl, by kernel_rfl, rfl, rfl, by decide, (by kernel_rfl : ((Tryz.prog.underlying 103).map fun d => match d with | .struct _ | .array _ _ => false | _ => true) = some true)⟩
def ti108 : TI := { size := 4, bytes := 80, zero := [.int .i64 0, .slice none 0 0, .slice none 0 0, .slice none 0 0], kind := .st [(0, 25), (3, 23)] }
theorem tok108 : TOk Tryz.prog 108 ti108 := ⟨by kernel_rfl, by kernel_rfl, by kernel_rfl, rfl, rfl, by decide, (st_of (by kernel_rfl) : ∃ F, Tryz.prog.underlying 108 = some (.struct F) ∧ F.toList.map (fun f => (f.offset, f.type)) = [(0, 25), (3, 23)])⟩
def ti109 : TI := { size := 1, bytes := 24, zero := [.slice none 0 0], kind := .sl 4 }
theorem tok109 : TOk Tryz.prog 109 ti109 := ⟨by kernel_rfl, by kernel_rfl, by kernel_rfl, rfl, rfl, by decide, (by kernel_rfl : Tryz.prog.underlying 109 = some (.slice 4))⟩
def ti113 : TI := { size := 4, bytes := 64, zero := [.int .i64 0, .slice none 0 0, .int .i64 0, .slice none 0 0], kind := .ar 2 46 }
theorem tok113 : TOk Tryz.prog 113 ti113 := ⟨by kernel_rfl, by kernel_rfl, by kernel_rfl, rfl, rfl, by decide, (by kernel_rfl : Tryz.prog.underlying 113 = some (.array 2 46))⟩
def ti115 : TI := { size := 5, bytes := 88, zero := [.slice none 0 0, .int .i64 0, .bool false, .slice none 0 0, .slice none 0 0], kind := .st [(0, 23), (1, 80)] }
theorem tok115 : TOk Tryz.prog 115 ti115 := ⟨by kernel_rfl, by kernel_rfl, by kernel_rfl, rfl, rfl, by decide, (st_of (by kernel_rfl) : ∃ F, Tryz.prog.underlying 115 = some (.struct F) ∧ F.toList.map (fun f => (f.offset, f.type)) = [(0, 23), (1, 80)])⟩
def ti132 : TI := { size := 6, bytes := 112, zero := [.int .i64 0, .slice none 0 0, .slice none 0 0, .int .i64 0, .slice none 0 0, .slice none 0 0], kind := .ar 2 25 }
theorem tok132 : TOk Tryz.prog 132 ti132 := ⟨by kernel_rfl, by kernel_rfl, by kernel_rfl, rfl, rfl, by decide, (by kernel_rfl : Tryz.prog.underlying 132 = some (.array 2 25))⟩
def ti136 : TI := { size := 1, bytes := 8, zero := [.int .u64 0], kind := .ot }
theorem tok136 : TOk Tryz.prog 136 ti136 := ⟨by kernel_rfl, by kernel_rfl, by kernel_rfl, rfl, rfl, by decide, (by kernel_rfl : ((Tryz.prog.underlying 136).map fun d => match d with | .struct _ | .array _ _ => false | _ => true) = some true)⟩
def ti140 : TI := { size := 1, bytes := 8, zero := [.int .i64 0], kind := .st [(0, 29)] }
theorem tok140 : TOk Tryz.prog 140 ti140 := ⟨by kernel_rfl, by kernel_rfl, by kernel_rfl, rfl, rfl, by decide, (st_of (by kernel_rfl) : ∃ F, Tryz.prog.underlying 140 = some (.struct F) ∧ F.toList.map (fun f => (f.offset, f.type)) = [(0, 29)])⟩
def ti152 : TI := { size := 1, bytes := 8, zero := [.int .i64 0], kind := .st [(0, 29)] }
theorem tok152 : TOk Tryz.prog 152 ti152 := ⟨by kernel_rfl, by kernel_rfl, by kernel_rfl, rfl, rfl, by decide, (st_of (by kernel_rfl) : ∃ F, Tryz.prog.underlying 152 = some (.struct F) ∧ F.toList.map (fun f => (f.offset, f.type)) = [(0, 29)])⟩
def ti174 : TI := { size := 1, bytes := 24, zero := [.slice none 0 0], kind := .sl 103 }
theorem tok174 : TOk Tryz.prog 174 ti174 := ⟨by kernel_rfl, by kernel_rfl, by kernel_rfl, rfl, rfl, by decide, (by kernel_rfl : Tryz.prog.underlying 174 = some (.slice 103))⟩
def ti176 : TI := { size := 3, bytes := 56, zero := [.bool false, .slice none 0 0, .slice none 0 0], kind := .st [(0, 4), (1, 174), (2, 174)] }
theorem tok176 : TOk Tryz.prog 176 ti176 := ⟨by kernel_rfl, by kernel_rfl, by kernel_rfl, rfl, rfl, by decide, (st_of (by kernel_rfl) : ∃ F, Tryz.prog.underlying 176 = some (.struct F) ∧ F.toList.map (fun f => (f.offset, f.type)) = [(0, 4), (1, 174), (2, 174)])⟩
def ti188 : TI := { size := 2, bytes := 32, zero := [.bool false, .slice none 0 0], kind := .st [(0, 4), (1, 78)] }
theorem tok188 : TOk Tryz.prog 188 ti188 := ⟨by kernel_rfl, by kernel_rfl, by kernel_rfl, rfl, rfl, by decide, (st_of (by kernel_rfl) : ∃ F, Tryz.prog.underlying 188 = some (.struct F) ∧ F.toList.map (fun f => (f.offset, f.type)) = [(0, 4), (1, 78)])⟩
def ti193 : TI := { size := 3, bytes := 3, zero := [.bool false, .bool false, .bool false], kind := .ar 3 4 }
theorem tok193 : TOk Tryz.prog 193 ti193 := ⟨by kernel_rfl, by kernel_rfl, by kernel_rfl, rfl, rfl, by decide, (by kernel_rfl : Tryz.prog.underlying 193 = some (.array 3 4))⟩
def ti194 : TI := { size := 24, bytes := 24, zero := [.bool false, .bool false, .bool false, .bool false, .bool false, .bool false, .bool false, .bool false, .bool false, .bool false, .bool false, .bool false, .bool false, .bool false, .bool false, .bool false, .bool false, .bool false, .bool false, .bool false, .bool false, .bool false, .bool false, .bool false], kind := .ar 8 193 }
theorem tok194 : TOk Tryz.prog 194 ti194 := ⟨by kernel_rfl, by kernel_rfl, by kernel_rfl, rfl, rfl, by decide, (by kernel_rfl : Tryz.prog.underlying 194 = some (.array 8 193))⟩
def ti196 : TI := { size := 1, bytes := 8, zero := [.map none], kind := .ot }
theorem tok196 : TOk Tryz.prog 196 ti196 := ⟨by kernel_rfl, by kernel_rfl, by kernel_rfl, rfl, rfl, by decide, (by kernel_rfl : ((Tryz.prog.underlying 196).map fun d => match d with | .struct _ | .array _ _ => false | _ => true) = some true)⟩
def ti198 : TI := { size := 2, bytes := 16, zero := [.int .i64 0, .map none], kind := .st [(0, 3), (1, 196)] }
theorem tok198 : TOk Tryz.prog 198 ti198 := ⟨by kernel_rfl, by kernel_rfl, by kernel_rfl, rfl, rfl, by decide, (st_of (by kernel_rfl) : ∃ F, Tryz.prog.underlying 198 = some (.struct F) ∧ F.toList.map (fun f => (f.offset, f.type)) = [(0, 3), (1, 196)])⟩
def ti238 : TI := { size := 1, bytes := 24, zero := [.slice none 0 0], kind := .sl 5 }
theorem tok238 : TOk Tryz.prog 238 ti238 := ⟨by kernel_rfl, by kernel_rfl, by kernel_rfl, rfl, rfl, by decide, (by kernel_rfl : Tryz.prog.underlying 238 = some (.slice 5))⟩
def ti263 : TI := { size := 1, bytes := 24, zero := [.slice none 0 0], kind := .sl 29 }
theorem tok263 : TOk Tryz.prog 263 ti263 := ⟨by kernel_rfl, by kernel_rfl, by kernel_rfl, rfl, rfl, by decide, (by kernel_rfl : Tryz.prog.underlying 263 = some (.slice 29))⟩
def ti264 : TI := { size := 1, bytes := 24, zero := [.slice none 0 0], kind := .sl 78 }
theorem tok264 : TOk Tryz.prog 264 ti264 := ⟨by kernel_rfl, by kernel_rfl, by kernel_rfl, rfl, rfl, by decide, (by kernel_rfl : Tryz.prog.underlying 264 = some (.slice 78))⟩
def tt : Nat → Option TI
 | 3 => some ti3
 | 4 => some ti4
 | 5 => some ti5
 | 9 => some ti9
 | 21 => some ti21
 | 22 => some ti22
 | 23 => some ti23
 | 25 => some ti25
 | 26 => some ti26
 | 29 => some ti29
 | 33 => some ti33
 | 36 => some ti36
 | 44 => some ti44
 | 46 => some ti46
 | 48 => some ti48
 | 51 => some ti51
 | 78 => some ti78
 | 80 => some ti80
 | 90 => some ti90
 | 101 => some ti101
 | 103 => some ti103
 | 108 => some ti108
 | 109 => some ti109
 | 113 => some ti113
 | 115 => some ti115
 | 132 => some ti132
 | 136 => some ti136
 | 140 => some ti140
 | 152 => some ti152
 | 174 => some ti174
 | 176 => some ti176
 | 188 => some ti188
 | 193 => some ti193
 | 194 => some ti194
 | 196 => some ti196
 | 198 => some ti198
 | 238 => some ti238
 | 263 => some ti263
 | 264 => some ti264
 | _ => none
theorem tt_ok : ∀ t i, tt t = some i → TOk Tryz.prog t i := by
 intro t i h
 unfold tt at h
 split at h
 · injection h with h; subst h; exact tok3
 · injection h with h; subst h; exact tok4
 · injection h with h; subst h; exact tok5
 · injection h with h; subst h; exact tok9
 · injection h with h; subst h; exact tok21
 · injection h with h; subst h; exact tok22
 · injection h with h; subst h; exact tok23
 · injection h with h; subst h; exact tok25
 · injection h with h; subst h; exact tok26
 · injection h with h; subst h; exact tok29
 · injection h with h; subst h; exact tok33
 · injection h with h; subst h; exact tok36
 · injection h with h; subst h; exact tok44
 · injection h with h; subst h; exact tok46
 · injection h with h; subst h; exact tok48
 · injection h with h; subst h; exact tok51
 · injection h with h; subst h; exact tok78
 · injection h with h; subst h; exact tok80
 · injection h with h; subst h; exact tok90
 · injection h with h; subst h; exact tok101
 · injection h with h; subst h; exact tok103
 · injection h with h; subst h; exact tok108
 · injection h with h; subst h; exact tok109
 · injection h with h; subst h; exact tok113
 · injection h with h; subst h; exact tok115
 · injection h with h; subst h; exact tok132
 · injection h with h; subst h; exact tok136
 · injection h with h; subst h; exact tok140
 · injection h with h; subst h; exact tok152
 · injection h with h; subst h; exact tok174
 · injection h with h; subst h; exact tok176
 · injection h with h; subst h; exact tok188
 · injection h with h; subst h; exact tok193
 · injection h with h; subst h; exact tok194
 · injection h with h; subst h; exact tok196
 · injection h with h; subst h; exact tok198
 · injection h with h; subst h; exact tok238
 · injection h with h; subst h; exact tok263
 · injection h with h; subst h; exact tok264
 · cases h
def hasTab : List PV := [false, false, false, false, false, false, false, false, true, true, true, false, true, true, false, true, true, false, true, true, false, true, false, false].map fun b => .val (.bool b)
def gpv (g : Nat) : PV := if g = 0 then .ea hasTab else .any
noncomputable def E : Env := { P := Tryz.prog, gpv := gpv, tt := tt, ok := tt_ok }
theorem mixed : E.P.follows .mixedOrders = true := by kernel_rfl
end Go.Pw
set_option linter.unusedVariables false
set_option linter.unusedSimpArgs false
namespace Go.Pw
open Go Go.Proofs
def getS : List (Nat × SV) → Nat → SV
 | [], _ => .sh .any
 | (k, x) :: r, t => if t = k then x else getS r t
def getO : List (Nat × Option Ob) → Nat → Option Ob
 | [], _ => none
 | (k, x) :: r, t => if t = k then x else getO r t
def mkS (e : List (Nat × SV)) (o : List (Nat × Option Ob)) : St := ⟨getS e, getO o⟩
section
variable (e : List (Nat × SV)) (o : List (Nat × Option Ob))
theorem mkS_s (t : Nat) : (mkS e o).s t = getS e t := rfl
theorem mkS_o (t : Nat) : (mkS e o).o t = getO o t := rfl
theorem getS_cons (k : Nat) (x : SV) (t : Nat) : getS ((k, x) :: e) t = if t = k then x else getS e t := rfl
theorem getS_nil (t : Nat) : getS [] t = .sh .any := rfl
theorem getO_cons (k : Nat) (x : Option Ob) (t : Nat) : getO ((k, x) :: o) t = if t = k then x else getO o t := rfl
theorem getO_nil (t : Nat) : getO [] t = none := rfl
theorem put_some (t : Nat) (x : SV) : (mkS e o).put (some t) x = mkS ((t, x) :: e) o := rfl
theorem put_none (x : SV) : (mkS e o).put none x = mkS e o := rfl
theorem setO_mk (k : Nat) (ob : Ob) : (mkS e o).setO k ob = mkS e ((k, some ob) :: o) := rfl
def mapE (f : SV → SV) : List (Nat × SV) → List (Nat × SV)
 | [] => []
 | (k, x) :: r => (k, f x) :: mapE f r
def mapO (f : Ob → Ob) : List (Nat × Option Ob) → List (Nat × Option Ob)
 | [] => []
 | (k, x) :: r => (k, x.map f) :: mapO f r
theorem mapE_cons (f : SV → SV) (k : Nat) (x : SV) : mapE f ((k, x) :: e) = (k, f x) :: mapE f e := rfl
theorem mapE_nil (f : SV → SV) : mapE f [] = [] := rfl
theorem mapO_some (f : Ob → Ob) (k : Nat) (x : Ob) : mapO f ((k, some x) :: o) = (k, some (f x)) :: mapO f o := rfl
theorem mapO_none (f : Ob → Ob) (k : Nat) : mapO f ((k, none) :: o) = (k, none) :: mapO f o := rfl
theorem mapO_nil (f : Ob → Ob) : mapO f [] = [] := rfl
theorem getS_mapE (f : SV → SV) (hf : f (.sh .any) = .sh .any) : ∀ (e : List (Nat × SV)) (t : Nat), getS (mapE f e) t = f (getS e t)
 | [], t => hf.symm
 | (k, x) :: e, t => by
   simp only [mapE, getS]
   split
   · rfl
   · exact getS_mapE f hf e t
theorem getO_mapO (f : Ob → Ob) : ∀ (o : List (Nat × Option Ob)) (t : Nat), getO (mapO f o) t = (getO o t).map f
 | [], t => rfl
 | (k, x) :: o, t => by
   simp only [mapO, getO]
   split
   · rfl
   · exact getO_mapO f o t
theorem St.ext' {σ τ : St} (h : ∀ t, σ.s t = τ.s t) (h' : ∀ k, σ.o k = τ.o k) : σ = τ := by
 cases σ; cases τ
 simp only at h h'
 rw [funext h, funext h']
theorem make_mk (k : Nat) (ob : Ob) : (mkS e o).make k ob = mkS (mapE (SV.kill k) e) ((k, some ob) :: mapO (Ob.kill k) o) := by
 refine St.ext' (fun t => ?_) (fun t => ?_)
 · simp only [St.make, St.setO, St.kill, mkS_s]
   rw [getS_mapE _ (by simp [SV.kill, SV.ment])]
 · simp only [St.make, St.setO, St.kill, mkS_o, getO]
   split
   · rfl
   · rw [getO_mapO]
theorem share_mk (k : Nat) (rows : List (List PV)) : (mkS e o).share k rows = mkS (mapE (SV.share k rows) e) ((k, none) :: mapO (Ob.share k rows) o) := by
 refine St.ext' (fun t => ?_) (fun t => ?_)
 · simp only [St.share, mkS_s]
   rw [getS_mapE _ rfl]
 · simp only [St.share, mkS_o, getO]
   split
   · rfl
   · rw [getO_mapO]
theorem freeze_mk (k : Nat) (ds : List PV) : (mkS e o).freeze k ds = mkS (mapE (SV.freeze k ds) e) ((k, none) :: mapO (Ob.freeze k ds) o) := by
 refine St.ext' (fun t => ?_) (fun t => ?_)
 · simp only [St.freeze, mkS_s]
   rw [getS_mapE _ rfl]
 · simp only [St.freeze, mkS_o, getO]
   split
   · rfl
   · rw [getO_mapO]
end
theorem kill_sh (k : Nat) (d : PV) : (SV.sh d).kill k = .sh d := rfl
theorem kill_bp (k k' off : Nat) : (SV.bp k' off).kill k = if k' = k then .sh .any else .bp k' off := by simp [SV.kill, SV.ment]
theorem kill_rp (k k' sz i j : Nat) : (SV.rp k' sz i j).kill k = if k' = k then .sh .any else .rp k' sz i j := by simp [SV.kill, SV.ment]
theorem kill_row (k k' : Nat) : (SV.row k').kill k = if k' = k then .sh .any else .row k' := by simp [SV.kill, SV.ment]
theorem obkill_box (k : Nat) (cs : List SV) : (Ob.box cs).kill k = .box (cs.map (SV.kill k)) := rfl
theorem SR_map_kill (k : Nat) (rows : List (List PV)) : (SR rows).map (fun r => r.map (SV.kill k)) = SR rows := by simp [SR, Function.comp_def, kill_sh]
theorem obkill_rw (k e sz : Nat) (rows : List (List PV)) : (Ob.rw e sz (SR rows)).kill k = .rw e sz (SR rows) := by simp only [Ob.kill, SR_map_kill]
theorem share_sh (k : Nat) (rows : List (List PV)) (d : PV) : (SV.sh d).share k rows = .sh d := rfl
theorem share_bp (k : Nat) (rows : List (List PV)) (k' off : Nat) : (SV.bp k' off).share k rows = .bp k' off := rfl
theorem share_row (k : Nat) (rows : List (List PV)) (k' : Nat) : (SV.row k').share k rows = if k' = k then .sh (.sl rows) else .row k' := rfl
theorem share_rp (k : Nat) (rows : List (List PV)) (k' sz i j : Nat) : (SV.rp k' sz i j).share k rows = if k' = k then .sh .any else .rp k' sz i j := rfl
theorem obshare_box (k : Nat) (rows : List (List PV)) (cs : List SV) : (Ob.box cs).share k rows = .box (cs.map (SV.share k rows)) := rfl
theorem obshare_rw (k e sz : Nat) (rs rows : List (List PV)) : (Ob.rw e sz (SR rows)).share k rs = .rw e sz (SR rows) := by simp [Ob.share, SR, Function.comp_def, share_sh]
theorem freeze_sh (k : Nat) (ds : List PV) (d : PV) : (SV.sh d).freeze k ds = .sh d := rfl
theorem freeze_row (k : Nat) (ds : List PV) (k' : Nat) : (SV.row k').freeze k ds = .row k' := rfl
theorem freeze_rp (k : Nat) (ds : List PV) (k' sz i j : Nat) : (SV.rp k' sz i j).freeze k ds = .rp k' sz i j := rfl
theorem freeze_bp (k : Nat) (ds : List PV) (k' off : Nat) : (SV.bp k' off).freeze k ds = if k' = k then (if off < ds.length then .sh (.ea (ds.drop off)) else .sh .any) else .bp k' off := rfl
theorem obfreeze_box (k : Nat) (ds : List PV) (cs : List SV) : (Ob.box cs).freeze k ds = .box (cs.map (SV.freeze k ds)) := rfl
theorem obfreeze_rw (k e sz : Nat) (ds : List PV) (rows : List (List PV)) : (Ob.rw e sz (SR rows)).freeze k ds = .rw e sz (SR rows) := by simp [Ob.freeze, SR, Function.comp_def, freeze_sh]
theorem unSR_SR (rows : List (List PV)) : unSR (SR rows) = rows := by simp [unSR, SR, Function.comp_def, SV.unsh]
theorem allSh_SR (rows : List (List PV)) : allSh (SR rows) = true := by simp [allSh, SR, SV.isSh]
theorem SR_len (rows : List (List PV)) : (SR rows).length = rows.length := by simp [SR]
theorem SR_append (r s : List (List PV)) : SR r ++ SR s = SR (r ++ s) := by simp [SR]
theorem SR_get (rows : List (List PV)) (i : Nat) : (SR rows)[i]? = (rows[i]?).map fun r => r.map .sh := by simp [SR]
theorem SR_set (rows : List (List PV)) (i : Nat) (r : List PV) : (SR rows).set i (r.map .sh) = SR (rows.set i r) := by simp [SR, List.map_set]
def argE : Nat → List PV → List (Nat × SV)
 | _, [] => []
 | k, d :: ds => (k, .sh d) :: argE (k + 1) ds
theorem getS_argE : ∀ (ds : List PV) (k t : Nat), getS (argE k ds) t = if t < k then .sh .any else match ds[t - k]? with | some d => .sh d | none => .sh .any
 | [], k, t => by simp [argE, getS]
 | d :: ds, k, t => by
   simp only [argE, getS]
   rw [getS_argE ds (k + 1) t]
   by_cases e : t = k
   · subst e; simp
   · rw [if_neg e]
     by_cases h : t < k
     · rw [if_pos (by omega), if_pos h]
     · rw [if_neg (by omega), if_neg h, show t - k = (t - (k + 1)) + 1 by omega]
       simp
theorem initS_mk (ds : List PV) : initS ds = mkS (argE 0 ds) [] := by
 refine St.ext' (fun t => ?_) (fun t => rfl)
 rw [mkS_s, getS_argE, if_neg (Nat.not_lt_zero _), Nat.sub_zero]
 rfl
def sq (E : Env) (y : Code) (Q : Exit → St → Prop) : Exit → St → Prop := fun e τ => match e with | .normal => pwp E y Q τ | e => Q e τ
def bq (id : Nat) (Q : Exit → St → Prop) : Exit → St → Prop := fun e τ => match e with | .exit i => if i = id then Q .normal τ else Q (.exit i) τ | e => Q e τ
def lq (E : Env) (I : Nat → St → Prop) (m : Nat) (Q : Exit → St → Prop) : Exit → St → Prop := fun e υ => match e with | .normal => ∃ m' υ', m' < m ∧ Weak E υ υ' ∧ I m' υ' | e => Q e υ
def rq (E : Env) (rs : List ResultVar) (d : PV) : Exit → St → Prop := fun e σ => match e with | .normal | .ret => resP E rs σ fun ds => one? ds = d | _ => False
section
variable {E : Env} {Q : Exit → St → Prop} {σ : St}
theorem p_seq {x y : Code} (h : pwp E x (sq E y Q) σ) : pwp E (.seq x y) Q σ := h
theorem p_sq {y : Code} (h : pwp E y Q σ) : sq E y Q .normal σ := h
theorem p_sq_ret {y : Code} (h : Q .ret σ) : sq E y Q .ret σ := h
theorem p_sq_exit {y : Code} {i : Nat} (h : Q (.exit i) σ) : sq E y Q (.exit i) σ := h
theorem p_block {id : Nat} {c : Code} (h : pwp E c (bq id Q) σ) : pwp E (.block id c) Q σ := h
theorem p_bq {id : Nat} (h : Q .normal σ) : bq id Q .normal σ := h
theorem p_bq_ret {id : Nat} (h : Q .ret σ) : bq id Q .ret σ := h
theorem p_bq_this {id : Nat} (h : Q .normal σ) : bq id Q (.exit id) σ := by simp only [bq, if_true]; exact h
theorem p_bq_other {id i : Nat} (hne : i ≠ id) (h : Q (.exit i) σ) : bq id Q (.exit i) σ := by simp only [bq, if_neg hne]; exact h
theorem p_lq_ret {I : Nat → St → Prop} {m : Nat} (h : Q .ret σ) : lq E I m Q .ret σ := h
theorem p_lq_exit {I : Nat → St → Prop} {m i : Nat} (h : Q (.exit i) σ) : lq E I m Q (.exit i) σ := h
theorem p_skip (h : Q .normal σ) : pwp E .skip Q σ := h
theorem p_exit {i : Nat} (h : Q (.exit i) σ) : pwp E (.exit i) Q σ := h
theorem p_ret (h : Q .ret σ) : pwp E .ret Q σ := h
theorem p_loop {c : Code} (I : Nat → St → Prop) (n : Nat) (τ : St) (hw : Weak E σ τ) (h0 : I n τ) (h : ∀ m τ, I m τ → pwp E c (lq E I m Q) τ) : pwp E (.loop c) Q σ := ⟨I, n, τ, hw, h0, h⟩
theorem p_cond {c : Operand} {x y : Code} {b : Bool} (hc : σ.ev E c = .sh (.val (.bool b))) (h1 : b = true → pwp E x Q σ) (h2 : b = false → pwp E y Q σ) : pwp E (.cond c x y) Q σ := by
 simp only [pwp, hc]; exact ⟨h1, h2⟩
theorem p_reg {id : Nat} {ops : Array Oper} (h : pops E ops ops.toList (Q .normal) σ) : pwp E (.region id ops false) Q σ := by refine ⟨σ, Weak.refl σ, .inl ?_⟩; simpa only [Bool.false_eq_true, if_false] using h
theorem p_drw {id : Nat} {ops : Array Oper} (h0 : drawOk ops (effAt ops.toList) = true) (h : pdr E ops ops.toList (Q .normal) σ) : pwp E (.region id ops true) Q σ := by refine ⟨σ, Weak.refl σ, .inl ?_⟩; simpa only [if_true] using ⟨h0, h⟩
theorem p_sem {id : Nat} {ops : Array Oper} {dr : Bool} (h : SemR E (.region id ops dr) Q σ) : pwp E (.region id ops dr) Q σ := ⟨σ, Weak.refl σ, .inr (.inr h)⟩
theorem p_wk {id : Nat} {ops : Array Oper} {dr : Bool} {τ : St} (hw : Weak E σ τ) (h : pwp E (.region id ops dr) Q τ) : pwp E (.region id ops dr) Q σ := by
 obtain ⟨υ, h1, h2⟩ := h
 exact ⟨υ, hw.trans h1, h2⟩
theorem p_drw2 {id : Nat} {ops : Array Oper} (m : Nat) (fls : List Nat) (R : List (List Nat)) (h0 : drawOk2 ops m fls R = true) (h : pfr E ops fls R m 0 ops.toList [] (Q .normal) σ) : pwp E (.region id ops true) Q σ := ⟨σ, Weak.refl σ, .inr (.inl ⟨rfl, m, fls, R, h0, h⟩)⟩
variable {ops : Array Oper} {K : St → Prop}
theorem p_nil (h : K σ) : pops E ops [] K σ := h
theorem p_op {o : Oper} {rest : List Oper} (hg : o.guard = none) (h : ∀ K' : St → Prop, (∀ τ, pops E ops rest K τ → K' τ) → epop E o.dst o.op σ fun x τ => K' (τ.put o.dst x)) : pops E ops (o :: rest) K σ := by
 simp only [pops, hg]
 exact .inl (h _ fun _ h => h)
theorem p_sop {o : Oper} {rest : List Oper} (hg : o.guard = none) (h : ∀ K' : St → Prop, (∀ τ, pops E ops rest K τ → K' τ) → SemOp E o σ fun x τ => K' (τ.put o.dst x)) : pops E ops (o :: rest) K σ := by
 simp only [pops, hg]
 exact .inr (h _ fun _ h => h)
theorem p_opg {o : Oper} {rest : List Oper} {j t : Nat} {want b : Bool} (hg : o.guard = some (j, want)) (ht : gslot ops j = some t) (hs : σ.s t = .sh (.val (.bool b))) (h1 : b = want → ∀ K' : St → Prop, (∀ τ, pops E ops rest K τ → K' τ) → epop E o.dst o.op σ fun x τ => K' (τ.put o.dst x))
   (h2 : b = !want → pops E ops rest K (σ.put o.dst (.sh (.val undef)))) : pops E ops (o :: rest) K σ := by
 simp only [pops, hg, ht, hs]
 exact ⟨fun e => h1 e _ fun _ h => h, h2⟩
theorem p_opgU {o : Oper} {rest : List Oper} {j t : Nat} {want : Bool} (hg : o.guard = some (j, want)) (ht : gslot ops j = some t) (hs : σ.s t = .sh (.val undef)) (h : pops E ops rest K (σ.put o.dst (.sh (.val undef)))) : pops E ops (o :: rest) K σ := by
 rw [undef_tuple] at hs
 simp only [pops, hg, ht, hs]
 exact h
theorem d_opgU {o : Oper} {rest : List Oper} {j t : Nat} {want : Bool} (he : isEff o.op = false) (hg : o.guard = some (j, want)) (ht : gslot ops j = some t) (hs : σ.s t = .sh (.val undef)) (h : pdr E ops rest K (σ.put o.dst (.sh (.val undef)))) : pdr E ops (o :: rest) K σ := by
 rw [undef_tuple] at hs
 simp only [pdr, he, hg, ht, hs, Bool.false_eq_true, if_false]
 exact h
theorem d_nil (h : K σ) : pdr E ops [] K σ := h
theorem d_eff {o : Oper} {rest : List Oper} (he : isEff o.op = true) (h : pops E ops (o :: rest) K σ) : pdr E ops (o :: rest) K σ := by
 simp only [pdr, he, if_true]; exact h
theorem d_op {o : Oper} {rest : List Oper} (he : isEff o.op = false) (hg : o.guard = none) (h : ∀ K' : St → Prop, (∀ τ, pdr E ops rest K τ → K' τ) → ppop E o.op σ fun x => K' (σ.put o.dst x)) : pdr E ops (o :: rest) K σ := by
 simp only [pdr, he, hg, Bool.false_eq_true, if_false]
 exact h _ fun _ h => h
theorem d_opg {o : Oper} {rest : List Oper} {j t : Nat} {want b : Bool} (he : isEff o.op = false) (hg : o.guard = some (j, want)) (ht : gslot ops j = some t) (hs : σ.s t = .sh (.val (.bool b))) (h1 : b = want → ∀ K' : St → Prop, (∀ τ, pdr E ops rest K τ → K' τ) → ppop E o.op σ fun x => K' (σ.put o.dst x))
   (h2 : b = !want → pdr E ops rest K (σ.put o.dst (.sh (.val undef)))) : pdr E ops (o :: rest) K σ := by
 simp only [pdr, he, hg, ht, hs, Bool.false_eq_true, if_false]
 exact ⟨fun e => h1 e _ fun _ h => h, h2⟩
end
theorem con_of' {E : Env} (hmix : E.P.follows .mixedOrders = true) {f : FuncId} {fn : Func} {c : Code} {args : List PV} {d : PV} (hf : E.P.funcs[f]? = some fn) (hname : (fn.name == "runtime.NumGoroutine") = false) (hb : fn.body = some c) (hok : codeOk fn.ntmps c = true)
    (hargs : decide (args.length ≤ fn.ntmps) = true) (hp : pwp E c (rq E fn.results.toList d) (mkS (argE 0 args) [])) : Con E f args d :=
  con_of hmix hf hname hb hok (by simpa using hargs) (by rw [initS_mk]; exact hp)
section
variable {E : Env} {ops : Array Oper} {fls : List Nat} {R : List (List Nat)} {K : St → Prop} {σ : St}
theorem f_end {k : Nat} {l : List Oper} {al : List (Nat × List Value)} (h : chks E ops fls (al.foldl recS σ) ∧ ptl E ops R l K (al.foldl recS σ)) : pfr E ops fls R 0 k l al K σ := h
theorem f_op {m k : Nat} {o : Oper} {rest : List Oper} {al : List (Nat × List Value)} (hA : isA ops k = false) (hg : o.guard = none) (h : ∀ K' : St → Prop, (∀ τ, pfr E ops fls R m (k + 1) rest al K τ → K' τ) → ppop E o.op σ fun x => K' (σ.put o.dst x)) : pfr E ops fls R (m + 1) k (o :: rest) al K σ := by
 simp only [pfr, hA, hg, Bool.false_eq_true, if_false]
 exact h _ fun _ h => h
theorem f_opg {m k : Nat} {o : Oper} {rest : List Oper} {al : List (Nat × List Value)} {j t : Nat} {want b : Bool} (hA : isA ops k = false) (hg : o.guard = some (j, want)) (ht : gslot ops j = some t) (hs : σ.s t = .sh (.val (.bool b))) (h1 : b = want → ∀ K' : St → Prop, (∀ τ, pfr E ops fls R m (k + 1) rest al K τ → K' τ) → ppop E o.op σ fun x => K' (σ.put o.dst x))
   (h2 : b = !want → pfr E ops fls R m (k + 1) rest al K (σ.put o.dst (.sh (.val undef)))) : pfr E ops fls R (m + 1) k (o :: rest) al K σ := by
 simp only [pfr, hA, hg, ht, hs, Bool.false_eq_true, if_false]
 exact ⟨fun e => h1 e _ fun _ h => h, h2⟩
theorem f_new {m k d : Nat} {o : Oper} {rest : List Oper} {al : List (Nat × List Value)} {T : Nat} {i : TI} (hA : isA ops k = true) (hd : o.dst = some d) (ho : o.op = .alloc T) (hi : E.tt T = some i) (h : pfr E ops fls R m (k + 1) rest (al ++ [(d, i.zero)]) K (σ.put o.dst (.sh .any))) : pfr E ops fls R (m + 1) k (o :: rest) al K σ := by
 simp only [pfr, hA, if_true]
 exact ⟨d, i.zero, hd, by simp only [AStp, ho]; exact ⟨i, hi, rfl⟩, h⟩
theorem g_nil {R : List (List Nat)} (h : K σ) : ptl E ops R [] K σ := by simpa only [ptl] using h
theorem k_nil : chks E ops [] σ := trivial
theorem k_cons {i d : Nat} {l : List Nat} {o : Oper} (ho : ops[i]? = some o) (hd : o.dst = some d) (h : ppop E o.op σ fun x => x = σ.s d) (h2 : chks E ops l σ) : chks E ops (i :: l) σ := ⟨⟨o, d, ho, hd, h⟩, h2⟩
end
def cN (l : List Nat) : PV := .sl (l.map fun (x : Nat) => [.val (.int .u32 (x : Int))])
def cI (l : List Int) : PV := .sl (l.map fun x => [.val (.int .i64 x)])
def cB (l : List Bool) : PV := .sl (l.map fun x => [.val (.bool x)])
structure Rt where
 fault : Int
 neg : Bool
 num : List Nat
 den : List Nat
def cR (r : Rt) : List PV := [.val (.int .i64 r.fault), .val (.bool r.neg), cN r.num, cN r.den]
def cRs (l : List Rt) : PV := .sl (l.map cR)
structure Tm where
 exps : List Int
 num : Rt
def cT (t : Tm) : List PV := [cI t.exps, .val (.int .i64 t.num.fault), .val (.bool t.num.neg), cN t.num.num, cN t.num.den]
def cTs (l : List Tm) : PV := .sl (l.map cT)
structure Py where
 vars : Int
 terms : List Tm
def cP (p : Py) : List PV := [.val (.int .i64 p.vars), cTs p.terms]
structure Qt where
 num : Py
 den : Py
def cQ (q : Qt) : List PV := [.val (.int .i64 q.num.vars), cTs q.num.terms, .val (.int .i64 q.den.vars), cTs q.den.terms]
def cQs (l : List Qt) : PV := .sl (l.map cQ)
structure Sp where
 kind : Int
 a : Int
 b : Int
 num : Rt
def cS (s : Sp) : List PV := [.val (.int .i64 s.kind), .val (.int .i64 s.a), .val (.int .i64 s.b), .val (.int .i64 s.num.fault), .val (.bool s.num.neg), cN s.num.num, cN s.num.den]
structure Tp where
 inputs : Int
 steps : List Sp
 outputs : List Int
def cTp (t : Tp) : List PV := [.val (.int .i64 t.inputs), .sl (t.steps.map cS), cI t.outputs]
def cRss (l : List (List Rt)) : PV := .sl (l.map fun r => [cRs r])
def vI (n : Int) : PV := .val (.int .i64 n)
def vB (b : Bool) : PV := .val (.bool b)
end Go.Pw
