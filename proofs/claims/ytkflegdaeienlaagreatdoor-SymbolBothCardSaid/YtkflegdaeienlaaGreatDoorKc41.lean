/- Merged from the working texts PxF. -/
import Derived.Test.YtkflegdaeienlaaGreatDoorKc40
set_option linter.all false
set_option maxHeartbeats 400000
set_option maxRecDepth 100000
set_option linter.unusedVariables false
namespace Go.Pw
open Go Go.Proofs
theorem FdOk.nil : FdOk [] := fun _ h => by cases h
theorem FdOk.cons {k : Nat} {f : FD} {l : List (Nat × FD)} (h : FOk k f) (hl : FdOk l) : FdOk ((k, f) :: l) := fun p hp => by
 rcases List.mem_cons.1 hp with rfl | hp
 · exact h
 · exact hl p hp
noncomputable def fd17 : FD := { fn := Tryz.f17, hs := [(6, { dr := some (51, [], []) })] }
theorem fok17 : FOk 17 fd17 := ⟨Tryz.func17, by kernel_rfl, by decide, _, rfl, by kernel_rfl, by kernel_rfl⟩
noncomputable def fd18 : FD := { fn := Tryz.f18, hs := [] }
theorem fok18 : FOk 18 fd18 := ⟨Tryz.func18, by kernel_rfl, by decide, _, rfl, by kernel_rfl, by kernel_rfl⟩
noncomputable def fd22 : FD := { fn := Tryz.f22, hs := [(22, { t2 := [85], dr := some (8, [0, 1], [[0, 1], [], []]) }), (25, { pre := [85] })] }
theorem fok22 : FOk 22 fd22 := ⟨Tryz.func22, by kernel_rfl, by decide, _, rfl, by kernel_rfl, by kernel_rfl⟩
noncomputable def fd27 : FD := { fn := Tryz.f27, hs := [(12, { t2 := [49], dr := some (8, [0, 1], [[0, 1], [], []]) }), (15, { pre := [49] })] }
theorem fok27 : FOk 27 fd27 := ⟨Tryz.func27, by kernel_rfl, by decide, _, rfl, by kernel_rfl, by kernel_rfl⟩
noncomputable def fd42 : FD := { fn := Tryz.f42, hs := [] }
theorem fok42 : FOk 42 fd42 := ⟨Tryz.func42, by kernel_rfl, by decide, _, rfl, by kernel_rfl, by kernel_rfl⟩
noncomputable def fd54 : FD := { fn := Tryz.f54, hs := [] }
theorem fok54 : FOk 54 fd54 := ⟨Tryz.func54, by kernel_rfl, by decide, _, rfl, by kernel_rfl, by kernel_rfl⟩
noncomputable def fd55 : FD := { fn := Tryz.f55, hs := [] }
theorem fok55 : FOk 55 fd55 := ⟨Tryz.func55, by kernel_rfl, by decide, _, rfl, by kernel_rfl, by kernel_rfl⟩
noncomputable def fd56 : FD := { fn := Tryz.f56, hs := [(11, { t2 := [44], dr := some (8, [0, 1], [[0, 1], [], []]) }), (14, { pre := [44] })] }
theorem fok56 : FOk 56 fd56 := ⟨Tryz.func56, by kernel_rfl, by decide, _, rfl, by kernel_rfl, by kernel_rfl⟩
noncomputable def fd60 : FD := { fn := Tryz.f60, hs := [] }
theorem fok60 : FOk 60 fd60 := ⟨Tryz.func60, by kernel_rfl, by decide, _, rfl, by kernel_rfl, by kernel_rfl⟩
noncomputable def fd61 : FD := { fn := Tryz.f61, hs := [(7, { inl := [113] }), (8, { inl := [113] }), (10, { inl := [114], dr := some (5, [], [[], [], [], [], []]), x := true }), (11, { inl := [113] }), (12, { inl := [113] }), (13, { inl := [113] }), (14, { inl := [113, 114], dr := some (7, [0, 1], [[0, 1], [], [], [], [], []]), x := true })] }
theorem fok61 : FOk 61 fd61 := ⟨Tryz.func61, by kernel_rfl, by decide, _, rfl, by kernel_rfl, by kernel_rfl⟩
noncomputable def fd62 : FD := { fn := Tryz.f62, hs := [(16, { t2 := [72], dr := some (8, [0, 1], [[0, 1], [], []]) }), (19, { pre := [72] })] }
theorem fok62 : FOk 62 fd62 := ⟨Tryz.func62, by kernel_rfl, by decide, _, rfl, by kernel_rfl, by kernel_rfl⟩
noncomputable def fd64 : FD := { fn := Tryz.f64, hs := [] }
theorem fok64 : FOk 64 fd64 := ⟨Tryz.func64, by kernel_rfl, by decide, _, rfl, by kernel_rfl, by kernel_rfl⟩
noncomputable def fd65 : FD := { fn := Tryz.f65, hs := [] }
theorem fok65 : FOk 65 fd65 := ⟨Tryz.func65, by kernel_rfl, by decide, _, rfl, by kernel_rfl, by kernel_rfl⟩
noncomputable def fd48 : FD := { fn := Tryz.f48, hs := [] }
theorem fok48 : FOk 48 fd48 := ⟨Tryz.func48, by kernel_rfl, by decide, _, rfl, by kernel_rfl, by kernel_rfl⟩
noncomputable def fd95 : FD := { fn := Tryz.f95, hs := [] }
theorem fok95 : FOk 95 fd95 := ⟨Tryz.func95, by kernel_rfl, by decide, _, rfl, by kernel_rfl, by kernel_rfl⟩
noncomputable def fd96 : FD := { fn := Tryz.f96, hs := [] }
theorem fok96 : FOk 96 fd96 := ⟨Tryz.func96, by kernel_rfl, by decide, _, rfl, by kernel_rfl, by kernel_rfl⟩
noncomputable def fd97 : FD := { fn := Tryz.f97, hs := [] }
theorem fok97 : FOk 97 fd97 := ⟨Tryz.func97, by kernel_rfl, by decide, _, rfl, by kernel_rfl, by kernel_rfl⟩
noncomputable def fd68 : FD := { fn := Tryz.f68, hs := [(8, { inl := [125], dr := some (9, [0, 1, 2, 3, 4, 5, 6, 7, 8], [[], [], [], [], [0, 1, 2, 3, 4, 5, 6, 7, 8], [], []]), x := true })] }
theorem fok68 : FOk 68 fd68 := ⟨Tryz.func68, by kernel_rfl, by decide, _, rfl, by kernel_rfl, by kernel_rfl⟩
noncomputable def fd81 : FD := { fn := Tryz.f81, hs := [] }
theorem fok81 : FOk 81 fd81 := ⟨Tryz.func81, by kernel_rfl, by decide, _, rfl, by kernel_rfl, by kernel_rfl⟩
noncomputable def fd106 : FD := { fn := Tryz.f106, hs := [] }
theorem fok106 : FOk 106 fd106 := ⟨Tryz.func106, by kernel_rfl, by decide, _, rfl, by kernel_rfl, by kernel_rfl⟩
noncomputable def fd107 : FD := { fn := Tryz.f107, hs := [] }
theorem fok107 : FOk 107 fd107 := ⟨Tryz.func107, by kernel_rfl, by decide, _, rfl, by kernel_rfl, by kernel_rfl⟩
noncomputable def fd108 : FD := { fn := Tryz.f108, hs := [] }
theorem fok108 : FOk 108 fd108 := ⟨Tryz.func108, by kernel_rfl, by decide, _, rfl, by kernel_rfl, by kernel_rfl⟩
noncomputable def fd109 : FD := { fn := Tryz.f109, hs := [] }
theorem fok109 : FOk 109 fd109 := ⟨Tryz.func109, by kernel_rfl, by decide, _, rfl, by kernel_rfl, by kernel_rfl⟩
noncomputable def fd110 : FD := { fn := Tryz.f110, hs := [] }
theorem fok110 : FOk 110 fd110 := ⟨Tryz.func110, by kernel_rfl, by decide, _, rfl, by kernel_rfl, by kernel_rfl⟩
noncomputable def fd90 : FD := { fn := Tryz.f90, hs := [] }
theorem fok90 : FOk 90 fd90 := ⟨Tryz.func90, by kernel_rfl, by decide, _, rfl, by kernel_rfl, by kernel_rfl⟩
noncomputable def fd111 : FD := { fn := Tryz.f111, hs := [] }
theorem fok111 : FOk 111 fd111 := ⟨Tryz.func111, by kernel_rfl, by decide, _, rfl, by kernel_rfl, by kernel_rfl⟩
noncomputable def fd113 : FD := { fn := Tryz.f113, hs := [] }
theorem fok113 : FOk 113 fd113 := ⟨Tryz.func113, by kernel_rfl, by decide, _, rfl, by kernel_rfl, by kernel_rfl⟩
noncomputable def fd114 : FD := { fn := Tryz.f114, hs := [(2, { dr := some (5, [1, 2, 3, 4], [[1, 2, 3, 4], []]) })] }
theorem fok114 : FOk 114 fd114 := ⟨Tryz.func114, by kernel_rfl, by decide, _, rfl, by kernel_rfl, by kernel_rfl⟩
noncomputable def fd115 : FD := { fn := Tryz.f115, hs := [(5, { dr := some (19, [], [[], [], []]) })] }
theorem fok115 : FOk 115 fd115 := ⟨Tryz.func115, by kernel_rfl, by decide, _, rfl, by kernel_rfl, by kernel_rfl⟩
noncomputable def fd116 : FD := { fn := Tryz.f116, hs := [] }
theorem fok116 : FOk 116 fd116 := ⟨Tryz.func116, by kernel_rfl, by decide, _, rfl, by kernel_rfl, by kernel_rfl⟩
noncomputable def fd117 : FD := { fn := Tryz.f117, hs := [] }
theorem fok117 : FOk 117 fd117 := ⟨Tryz.func117, by kernel_rfl, by decide, _, rfl, by kernel_rfl, by kernel_rfl⟩
noncomputable def fd47 : FD := { fn := Tryz.f47, hs := [] }
theorem fok47 : FOk 47 fd47 := ⟨Tryz.func47, by kernel_rfl, by decide, _, rfl, by kernel_rfl, by kernel_rfl⟩
noncomputable def fd91 : FD := { fn := Tryz.f91, hs := [] }
theorem fok91 : FOk 91 fd91 := ⟨Tryz.func91, by kernel_rfl, by decide, _, rfl, by kernel_rfl, by kernel_rfl⟩
noncomputable def fd119 : FD := { fn := Tryz.f119, hs := [] }
theorem fok119 : FOk 119 fd119 := ⟨Tryz.func119, by kernel_rfl, by decide, _, rfl, by kernel_rfl, by kernel_rfl⟩
noncomputable def fd120 : FD := { fn := Tryz.f120, hs := [] }
theorem fok120 : FOk 120 fd120 := ⟨Tryz.func120, by kernel_rfl, by decide, _, rfl, by kernel_rfl, by kernel_rfl⟩
noncomputable def fd121 : FD := { fn := Tryz.f121, hs := [] }
theorem fok121 : FOk 121 fd121 := ⟨Tryz.func121, by kernel_rfl, by decide, _, rfl, by kernel_rfl, by kernel_rfl⟩
noncomputable def fd122 : FD := { fn := Tryz.f122, hs := [] }
theorem fok122 : FOk 122 fd122 := ⟨Tryz.func122, by kernel_rfl, by decide, _, rfl, by kernel_rfl, by kernel_rfl⟩
noncomputable def fd93 : FD := { fn := Tryz.f93, hs := [] }
theorem fok93 : FOk 93 fd93 := ⟨Tryz.func93, by kernel_rfl, by decide, _, rfl, by kernel_rfl, by kernel_rfl⟩
noncomputable def fd118 : FD := { fn := Tryz.f118, hs := [] }
theorem fok118 : FOk 118 fd118 := ⟨Tryz.func118, by kernel_rfl, by decide, _, rfl, by kernel_rfl, by kernel_rfl⟩
noncomputable def fd161 : FD := { fn := Tryz.f161, hs := [] }
theorem fok161 : FOk 161 fd161 := ⟨Tryz.func161, by kernel_rfl, by decide, _, rfl, by kernel_rfl, by kernel_rfl⟩
noncomputable def fd162 : FD := { fn := Tryz.f162, hs := [] }
theorem fok162 : FOk 162 fd162 := ⟨Tryz.func162, by kernel_rfl, by decide, _, rfl, by kernel_rfl, by kernel_rfl⟩
noncomputable def fd163 : FD := { fn := Tryz.f163, hs := [] }
theorem fok163 : FOk 163 fd163 := ⟨Tryz.func163, by kernel_rfl, by decide, _, rfl, by kernel_rfl, by kernel_rfl⟩
noncomputable def fd124 : FD := { fn := Tryz.f124, hs := [] }
theorem fok124 : FOk 124 fd124 := ⟨Tryz.func124, by kernel_rfl, by decide, _, rfl, by kernel_rfl, by kernel_rfl⟩
noncomputable def fd125 : FD := { fn := Tryz.f125, hs := [] }
theorem fok125 : FOk 125 fd125 := ⟨Tryz.func125, by kernel_rfl, by decide, _, rfl, by kernel_rfl, by kernel_rfl⟩
noncomputable def fd143 : FD := { fn := Tryz.f143, hs := [] }
theorem fok143 : FOk 143 fd143 := ⟨Tryz.func143, by kernel_rfl, by decide, _, rfl, by kernel_rfl, by kernel_rfl⟩
noncomputable def fd123 : FD := { fn := Tryz.f123, hs := [] }
theorem fok123 : FOk 123 fd123 := ⟨Tryz.func123, by kernel_rfl, by decide, _, rfl, by kernel_rfl, by kernel_rfl⟩
noncomputable def fd173 : FD := { fn := Tryz.f173, hs := [] }
theorem fok173 : FOk 173 fd173 := ⟨Tryz.func173, by kernel_rfl, by decide, _, rfl, by kernel_rfl, by kernel_rfl⟩
noncomputable def fd147 : FD := { fn := Tryz.f147, hs := [] }
theorem fok147 : FOk 147 fd147 := ⟨Tryz.func147, by kernel_rfl, by decide, _, rfl, by kernel_rfl, by kernel_rfl⟩
noncomputable def fd112 : FD := { fn := Tryz.f112, hs := [(5, { inl := [174] }), (11, { inl := [94] }), (13, { inl := [175], pre := [45], dr := some (9, [], [[]]) })] }
theorem fok112 : FOk 112 fd112 := ⟨Tryz.func112, by kernel_rfl, by decide, _, rfl, by kernel_rfl, by kernel_rfl⟩
noncomputable def fd94 : FD := { fn := Tryz.f94, hs := [] }
theorem fok94 : FOk 94 fd94 := ⟨Tryz.func94, by kernel_rfl, by decide, _, rfl, by kernel_rfl, by kernel_rfl⟩
noncomputable def fd177 : FD := { fn := Tryz.f177, hs := [(9, { dr := some (5, [], [[]]) }), (16, { inl := [237] })] }
theorem fok177 : FOk 177 fd177 := ⟨Tryz.func177, by kernel_rfl, by decide, _, rfl, by kernel_rfl, by kernel_rfl⟩
noncomputable def fd178 : FD := { fn := Tryz.f178, hs := [] }
theorem fok178 : FOk 178 fd178 := ⟨Tryz.func178, by kernel_rfl, by decide, _, rfl, by kernel_rfl, by kernel_rfl⟩
noncomputable def fd179 : FD := { fn := Tryz.f179, hs := [(1, { inl := [174] }), (5, { inl := [175], dr := some (7, [], [[]]) })] }
theorem fok179 : FOk 179 fd179 := ⟨Tryz.func179, by kernel_rfl, by decide, _, rfl, by kernel_rfl, by kernel_rfl⟩
noncomputable def fd180 : FD := { fn := Tryz.f180, hs := [(1, { inl := [174] }), (9, { inl := [235] }), (15, { inl := [175], pre := [35], dr := some (6, [], [[]]) })] }
theorem fok180 : FOk 180 fd180 := ⟨Tryz.func180, by kernel_rfl, by decide, _, rfl, by kernel_rfl, by kernel_rfl⟩
noncomputable def fd150 : FD := { fn := Tryz.f150, hs := [] }
theorem fok150 : FOk 150 fd150 := ⟨Tryz.func150, by kernel_rfl, by decide, _, rfl, by kernel_rfl, by kernel_rfl⟩
noncomputable def fd181 : FD := { fn := Tryz.f181, hs := [(1, { inl := [174] }), (5, { inl := [175] }), (9, { inl := [175], dr := some (5, [], [[]]) })] }
theorem fok181 : FOk 181 fd181 := ⟨Tryz.func181, by kernel_rfl, by decide, _, rfl, by kernel_rfl, by kernel_rfl⟩
noncomputable def fd92 : FD := { fn := Tryz.f92, hs := [] }
theorem fok92 : FOk 92 fd92 := ⟨Tryz.func92, by kernel_rfl, by decide, _, rfl, by kernel_rfl, by kernel_rfl⟩
noncomputable def fd148 : FD := { fn := Tryz.f148, hs := [] }
theorem fok148 : FOk 148 fd148 := ⟨Tryz.func148, by kernel_rfl, by decide, _, rfl, by kernel_rfl, by kernel_rfl⟩
noncomputable def fd149 : FD := { fn := Tryz.f149, hs := [] }
theorem fok149 : FOk 149 fd149 := ⟨Tryz.func149, by kernel_rfl, by decide, _, rfl, by kernel_rfl, by kernel_rfl⟩
noncomputable def fd151 : FD := { fn := Tryz.f151, hs := [] }
theorem fok151 : FOk 151 fd151 := ⟨Tryz.func151, by kernel_rfl, by decide, _, rfl, by kernel_rfl, by kernel_rfl⟩
noncomputable def fd152 : FD := { fn := Tryz.f152, hs := [] }
theorem fok152 : FOk 152 fd152 := ⟨Tryz.func152, by kernel_rfl, by decide, _, rfl, by kernel_rfl, by kernel_rfl⟩
noncomputable def fd153 : FD := { fn := Tryz.f153, hs := [] }
theorem fok153 : FOk 153 fd153 := ⟨Tryz.func153, by kernel_rfl, by decide, _, rfl, by kernel_rfl, by kernel_rfl⟩
noncomputable def fd154 : FD := { fn := Tryz.f154, hs := [] }
theorem fok154 : FOk 154 fd154 := ⟨Tryz.func154, by kernel_rfl, by decide, _, rfl, by kernel_rfl, by kernel_rfl⟩
noncomputable def fd155 : FD := { fn := Tryz.f155, hs := [(1, { dr := some (10, [], [[]]) })] }
theorem fok155 : FOk 155 fd155 := ⟨Tryz.func155, by kernel_rfl, by decide, _, rfl, by kernel_rfl, by kernel_rfl⟩
noncomputable def fd182 : FD := { fn := Tryz.f182, hs := [] }
theorem fok182 : FOk 182 fd182 := ⟨Tryz.func182, by kernel_rfl, by decide, _, rfl, by kernel_rfl, by kernel_rfl⟩
noncomputable def fd183 : FD := { fn := Tryz.f183, hs := [] }
theorem fok183 : FOk 183 fd183 := ⟨Tryz.func183, by kernel_rfl, by decide, _, rfl, by kernel_rfl, by kernel_rfl⟩
noncomputable def fd225 : FD := { fn := Tryz.f225, hs := [] }
theorem fok225 : FOk 225 fd225 := ⟨Tryz.func225, by kernel_rfl, by decide, _, rfl, by kernel_rfl, by kernel_rfl⟩
noncomputable def fd140 : FD := { fn := Tryz.f140, hs := [] }
theorem fok140 : FOk 140 fd140 := ⟨Tryz.func140, by kernel_rfl, by decide, _, rfl, by kernel_rfl, by kernel_rfl⟩
noncomputable def fd226 : FD := { fn := Tryz.f226, hs := [] }
theorem fok226 : FOk 226 fd226 := ⟨Tryz.func226, by kernel_rfl, by decide, _, rfl, by kernel_rfl, by kernel_rfl⟩
noncomputable def fd227 : FD := { fn := Tryz.f227, hs := [] }
theorem fok227 : FOk 227 fd227 := ⟨Tryz.func227, by kernel_rfl, by decide, _, rfl, by kernel_rfl, by kernel_rfl⟩
noncomputable def fd66 : FD := { fn := Tryz.f66, hs := [] }
theorem fok66 : FOk 66 fd66 := ⟨Tryz.func66, by kernel_rfl, by decide, _, rfl, by kernel_rfl, by kernel_rfl⟩
noncomputable def fd188 : FD := { fn := Tryz.f188, hs := [] }
theorem fok188 : FOk 188 fd188 := ⟨Tryz.func188, by kernel_rfl, by decide, _, rfl, by kernel_rfl, by kernel_rfl⟩
noncomputable def fd189 : FD := { fn := Tryz.f189, hs := [] }
theorem fok189 : FOk 189 fd189 := ⟨Tryz.func189, by kernel_rfl, by decide, _, rfl, by kernel_rfl, by kernel_rfl⟩
noncomputable def fd190 : FD := { fn := Tryz.f190, hs := [] }
theorem fok190 : FOk 190 fd190 := ⟨Tryz.func190, by kernel_rfl, by decide, _, rfl, by kernel_rfl, by kernel_rfl⟩
noncomputable def fd191 : FD := { fn := Tryz.f191, hs := [] }
theorem fok191 : FOk 191 fd191 := ⟨Tryz.func191, by kernel_rfl, by decide, _, rfl, by kernel_rfl, by kernel_rfl⟩
noncomputable def fd192 : FD := { fn := Tryz.f192, hs := [(5, { inl := [113] }), (6, { inl := [113, 114], dr := some (7, [0, 1], [[0, 1], [], [], [], [], []]), x := true })] }
theorem fok192 : FOk 192 fd192 := ⟨Tryz.func192, by kernel_rfl, by decide, _, rfl, by kernel_rfl, by kernel_rfl⟩
noncomputable def fd193 : FD := { fn := Tryz.f193, hs := [(7, { inl := [113] }), (8, { inl := [113, 114], dr := some (7, [0, 1], [[0, 1], [], [], [], [], []]), x := true })] }
theorem fok193 : FOk 193 fd193 := ⟨Tryz.func193, by kernel_rfl, by decide, _, rfl, by kernel_rfl, by kernel_rfl⟩
noncomputable def fd194 : FD := { fn := Tryz.f194, hs := [(3, { dr := some (8, [6], [[6], []]) }), (4, { inl := [114], dr := some (7, [], [[], [], [], [], []]), x := true })] }
theorem fok194 : FOk 194 fd194 := ⟨Tryz.func194, by kernel_rfl, by decide, _, rfl, by kernel_rfl, by kernel_rfl⟩
noncomputable def fd184 : FD := { fn := Tryz.f184, hs := [] }
theorem fok184 : FOk 184 fd184 := ⟨Tryz.func184, by kernel_rfl, by decide, _, rfl, by kernel_rfl, by kernel_rfl⟩
noncomputable def fd185 : FD := { fn := Tryz.f185, hs := [] }
theorem fok185 : FOk 185 fd185 := ⟨Tryz.func185, by kernel_rfl, by decide, _, rfl, by kernel_rfl, by kernel_rfl⟩
noncomputable def fd186 : FD := { fn := Tryz.f186, hs := [] }
theorem fok186 : FOk 186 fd186 := ⟨Tryz.func186, by kernel_rfl, by decide, _, rfl, by kernel_rfl, by kernel_rfl⟩
noncomputable def fd187 : FD := { fn := Tryz.f187, hs := [] }
theorem fok187 : FOk 187 fd187 := ⟨Tryz.func187, by kernel_rfl, by decide, _, rfl, by kernel_rfl, by kernel_rfl⟩
noncomputable def fd174 : FD := { fn := Tryz.f174, hs := [(1, { inl := [0] })] }
theorem fok174 : FOk 174 fd174 := ⟨Tryz.func174, by kernel_rfl, by decide, _, rfl, by kernel_rfl, by kernel_rfl⟩
noncomputable def fd175 : FD := { fn := Tryz.f175, hs := [] }
theorem fok175 : FOk 175 fd175 := ⟨Tryz.func175, by kernel_rfl, by decide, _, rfl, by kernel_rfl, by kernel_rfl⟩
noncomputable def fd235 : FD := { fn := Tryz.f235, hs := [(5, { dr := some (20, [], [[], []]) })] }
theorem fok235 : FOk 235 fd235 := ⟨Tryz.func235, by kernel_rfl, by decide, _, rfl, by kernel_rfl, by kernel_rfl⟩
noncomputable def fd236 : FD := { fn := Tryz.f236, hs := [] }
theorem fok236 : FOk 236 fd236 := ⟨Tryz.func236, by kernel_rfl, by decide, _, rfl, by kernel_rfl, by kernel_rfl⟩
noncomputable def fd237 : FD := { fn := Tryz.f237, hs := [(1, { inl := [267] })] }
theorem fok237 : FOk 237 fd237 := ⟨Tryz.func237, by kernel_rfl, by decide, _, rfl, by kernel_rfl, by kernel_rfl⟩
noncomputable def fd238 : FD := { fn := Tryz.f238, hs := [] }
theorem fok238 : FOk 238 fd238 := ⟨Tryz.func238, by kernel_rfl, by decide, _, rfl, by kernel_rfl, by kernel_rfl⟩
noncomputable def fd136 : FD := { fn := Tryz.f136, hs := [] }
theorem fok136 : FOk 136 fd136 := ⟨Tryz.func136, by kernel_rfl, by decide, _, rfl, by kernel_rfl, by kernel_rfl⟩
noncomputable def fd156 : FD := { fn := Tryz.f156, hs := [] }
theorem fok156 : FOk 156 fd156 := ⟨Tryz.func156, by kernel_rfl, by decide, _, rfl, by kernel_rfl, by kernel_rfl⟩
noncomputable def fd157 : FD := { fn := Tryz.f157, hs := [] }
theorem fok157 : FOk 157 fd157 := ⟨Tryz.func157, by kernel_rfl, by decide, _, rfl, by kernel_rfl, by kernel_rfl⟩
noncomputable def fd211 : FD := { fn := Tryz.f211, hs := [] }
theorem fok211 : FOk 211 fd211 := ⟨Tryz.func211, by kernel_rfl, by decide, _, rfl, by kernel_rfl, by kernel_rfl⟩
noncomputable def fd212 : FD := { fn := Tryz.f212, hs := [] }
theorem fok212 : FOk 212 fd212 := ⟨Tryz.func212, by kernel_rfl, by decide, _, rfl, by kernel_rfl, by kernel_rfl⟩
noncomputable def fd213 : FD := { fn := Tryz.f213, hs := [] }
theorem fok213 : FOk 213 fd213 := ⟨Tryz.func213, by kernel_rfl, by decide, _, rfl, by kernel_rfl, by kernel_rfl⟩
noncomputable def fd214 : FD := { fn := Tryz.f214, hs := [] }
theorem fok214 : FOk 214 fd214 := ⟨Tryz.func214, by kernel_rfl, by decide, _, rfl, by kernel_rfl, by kernel_rfl⟩
noncomputable def fd215 : FD := { fn := Tryz.f215, hs := [] }
theorem fok215 : FOk 215 fd215 := ⟨Tryz.func215, by kernel_rfl, by decide, _, rfl, by kernel_rfl, by kernel_rfl⟩
noncomputable def fd216 : FD := { fn := Tryz.f216, hs := [] }
theorem fok216 : FOk 216 fd216 := ⟨Tryz.func216, by kernel_rfl, by decide, _, rfl, by kernel_rfl, by kernel_rfl⟩
noncomputable def fd217 : FD := { fn := Tryz.f217, hs := [] }
theorem fok217 : FOk 217 fd217 := ⟨Tryz.func217, by kernel_rfl, by decide, _, rfl, by kernel_rfl, by kernel_rfl⟩
noncomputable def fd218 : FD := { fn := Tryz.f218, hs := [] }
theorem fok218 : FOk 218 fd218 := ⟨Tryz.func218, by kernel_rfl, by decide, _, rfl, by kernel_rfl, by kernel_rfl⟩
noncomputable def fd219 : FD := { fn := Tryz.f219, hs := [] }
theorem fok219 : FOk 219 fd219 := ⟨Tryz.func219, by kernel_rfl, by decide, _, rfl, by kernel_rfl, by kernel_rfl⟩
noncomputable def fd264 : FD := { fn := Tryz.f264, hs := [] }
theorem fok264 : FOk 264 fd264 := ⟨Tryz.func264, by kernel_rfl, by decide, _, rfl, by kernel_rfl, by kernel_rfl⟩
noncomputable def fd203 : FD := { fn := Tryz.f203, hs := [] }
theorem fok203 : FOk 203 fd203 := ⟨Tryz.func203, by kernel_rfl, by decide, _, rfl, by kernel_rfl, by kernel_rfl⟩
noncomputable def fd204 : FD := { fn := Tryz.f204, hs := [] }
theorem fok204 : FOk 204 fd204 := ⟨Tryz.func204, by kernel_rfl, by decide, _, rfl, by kernel_rfl, by kernel_rfl⟩
noncomputable def fd205 : FD := { fn := Tryz.f205, hs := [] }
theorem fok205 : FOk 205 fd205 := ⟨Tryz.func205, by kernel_rfl, by decide, _, rfl, by kernel_rfl, by kernel_rfl⟩
noncomputable def fd206 : FD := { fn := Tryz.f206, hs := [] }
theorem fok206 : FOk 206 fd206 := ⟨Tryz.func206, by kernel_rfl, by decide, _, rfl, by kernel_rfl, by kernel_rfl⟩
noncomputable def fd265 : FD := { fn := Tryz.f265, hs := [] }
theorem fok265 : FOk 265 fd265 := ⟨Tryz.func265, by kernel_rfl, by decide, _, rfl, by kernel_rfl, by kernel_rfl⟩
noncomputable def fd241 : FD := { fn := Tryz.f241, hs := [] }
theorem fok241 : FOk 241 fd241 := ⟨Tryz.func241, by kernel_rfl, by decide, _, rfl, by kernel_rfl, by kernel_rfl⟩
noncomputable def fd242 : FD := { fn := Tryz.f242, hs := [(5, { inl := [174] }), (6, { inl := [175], pre := [25], dr := some (4, [], [[]]) })] }
theorem fok242 : FOk 242 fd242 := ⟨Tryz.func242, by kernel_rfl, by decide, _, rfl, by kernel_rfl, by kernel_rfl⟩
noncomputable def fd243 : FD := { fn := Tryz.f243, hs := [(5, { inl := [174] }), (6, { inl := [175], dr := some (6, [], [[]]) })] }
theorem fok243 : FOk 243 fd243 := ⟨Tryz.func243, by kernel_rfl, by decide, _, rfl, by kernel_rfl, by kernel_rfl⟩
noncomputable def fd244 : FD := { fn := Tryz.f244, hs := [(6, { inl := [113, 114], dr := some (7, [0, 1, 2, 3, 4, 5, 6], [[0], [0, 1, 2, 3, 4, 5, 6], [0, 1, 2, 3, 4, 5, 6], [0], [], [], [], [], []]), x := true }), (7, { inl := [113] }), (8, { inl := [113] }), (9, { inl := [113] }), (10, { inl := [113, 114], dr := some (7, [0, 1], [[0, 1], [], [], [], [], []]), x := true })] }
theorem fok244 : FOk 244 fd244 := ⟨Tryz.func244, by kernel_rfl, by decide, _, rfl, by kernel_rfl, by kernel_rfl⟩
noncomputable def fd245 : FD := { fn := Tryz.f245, hs := [] }
theorem fok245 : FOk 245 fd245 := ⟨Tryz.func245, by kernel_rfl, by decide, _, rfl, by kernel_rfl, by kernel_rfl⟩
noncomputable def fd246 : FD := { fn := Tryz.f246, hs := [] }
theorem fok246 : FOk 246 fd246 := ⟨Tryz.func246, by kernel_rfl, by decide, _, rfl, by kernel_rfl, by kernel_rfl⟩
noncomputable def fd247 : FD := { fn := Tryz.f247, hs := [] }
theorem fok247 : FOk 247 fd247 := ⟨Tryz.func247, by kernel_rfl, by decide, _, rfl, by kernel_rfl, by kernel_rfl⟩
noncomputable def fd248 : FD := { fn := Tryz.f248, hs := [] }
theorem fok248 : FOk 248 fd248 := ⟨Tryz.func248, by kernel_rfl, by decide, _, rfl, by kernel_rfl, by kernel_rfl⟩
noncomputable def fd223 : FD := { fn := Tryz.f223, hs := [] }
theorem fok223 : FOk 223 fd223 := ⟨Tryz.func223, by kernel_rfl, by decide, _, rfl, by kernel_rfl, by kernel_rfl⟩
noncomputable def fd239 : FD := { fn := Tryz.f239, hs := [] }
theorem fok239 : FOk 239 fd239 := ⟨Tryz.func239, by kernel_rfl, by decide, _, rfl, by kernel_rfl, by kernel_rfl⟩
noncomputable def fd240 : FD := { fn := Tryz.f240, hs := [] }
theorem fok240 : FOk 240 fd240 := ⟨Tryz.func240, by kernel_rfl, by decide, _, rfl, by kernel_rfl, by kernel_rfl⟩
noncomputable def fd232 : FD := { fn := Tryz.f232, hs := [] }
theorem fok232 : FOk 232 fd232 := ⟨Tryz.func232, by kernel_rfl, by decide, _, rfl, by kernel_rfl, by kernel_rfl⟩
noncomputable def fd267 : FD := { fn := Tryz.f267, hs := [(4, { inl := [287] }), (26, { inl := [267] }), (29, { inl := [267] })] }
theorem fok267 : FOk 267 fd267 := ⟨Tryz.func267, by kernel_rfl, by decide, _, rfl, by kernel_rfl, by kernel_rfl⟩
noncomputable def fd268 : FD := { fn := Tryz.f268, hs := [] }
theorem fok268 : FOk 268 fd268 := ⟨Tryz.func268, by kernel_rfl, by decide, _, rfl, by kernel_rfl, by kernel_rfl⟩
noncomputable def fd158 : FD := { fn := Tryz.f158, hs := [] }
theorem fok158 : FOk 158 fd158 := ⟨Tryz.func158, by kernel_rfl, by decide, _, rfl, by kernel_rfl, by kernel_rfl⟩
noncomputable def fd200 : FD := { fn := Tryz.f200, hs := [] }
theorem fok200 : FOk 200 fd200 := ⟨Tryz.func200, by kernel_rfl, by decide, _, rfl, by kernel_rfl, by kernel_rfl⟩
noncomputable def fd220 : FD := { fn := Tryz.f220, hs := [] }
theorem fok220 : FOk 220 fd220 := ⟨Tryz.func220, by kernel_rfl, by decide, _, rfl, by kernel_rfl, by kernel_rfl⟩
noncomputable def fd221 : FD := { fn := Tryz.f221, hs := [] }
theorem fok221 : FOk 221 fd221 := ⟨Tryz.func221, by kernel_rfl, by decide, _, rfl, by kernel_rfl, by kernel_rfl⟩
noncomputable def fd159 : FD := { fn := Tryz.f159, hs := [] }
theorem fok159 : FOk 159 fd159 := ⟨Tryz.func159, by kernel_rfl, by decide, _, rfl, by kernel_rfl, by kernel_rfl⟩
noncomputable def fd160 : FD := { fn := Tryz.f160, hs := [] }
theorem fok160 : FOk 160 fd160 := ⟨Tryz.func160, by kernel_rfl, by decide, _, rfl, by kernel_rfl, by kernel_rfl⟩
noncomputable def fd255 : FD := { fn := Tryz.f255, hs := [] }
theorem fok255 : FOk 255 fd255 := ⟨Tryz.func255, by kernel_rfl, by decide, _, rfl, by kernel_rfl, by kernel_rfl⟩
noncomputable def fd256 : FD := { fn := Tryz.f256, hs := [] }
theorem fok256 : FOk 256 fd256 := ⟨Tryz.func256, by kernel_rfl, by decide, _, rfl, by kernel_rfl, by kernel_rfl⟩
noncomputable def fd257 : FD := { fn := Tryz.f257, hs := [] }
theorem fok257 : FOk 257 fd257 := ⟨Tryz.func257, by kernel_rfl, by decide, _, rfl, by kernel_rfl, by kernel_rfl⟩
noncomputable def fd258 : FD := { fn := Tryz.f258, hs := [] }
theorem fok258 : FOk 258 fd258 := ⟨Tryz.func258, by kernel_rfl, by decide, _, rfl, by kernel_rfl, by kernel_rfl⟩
noncomputable def fd259 : FD := { fn := Tryz.f259, hs := [] }
theorem fok259 : FOk 259 fd259 := ⟨Tryz.func259, by kernel_rfl, by decide, _, rfl, by kernel_rfl, by kernel_rfl⟩
noncomputable def fd260 : FD := { fn := Tryz.f260, hs := [] }
theorem fok260 : FOk 260 fd260 := ⟨Tryz.func260, by kernel_rfl, by decide, _, rfl, by kernel_rfl, by kernel_rfl⟩
noncomputable def fd261 : FD := { fn := Tryz.f261, hs := [] }
theorem fok261 : FOk 261 fd261 := ⟨Tryz.func261, by kernel_rfl, by decide, _, rfl, by kernel_rfl, by kernel_rfl⟩
noncomputable def fd231 : FD := { fn := Tryz.f231, hs := [] }
theorem fok231 : FOk 231 fd231 := ⟨Tryz.func231, by kernel_rfl, by decide, _, rfl, by kernel_rfl, by kernel_rfl⟩
noncomputable def fd270 : FD := { fn := Tryz.f270, hs := [] }
theorem fok270 : FOk 270 fd270 := ⟨Tryz.func270, by kernel_rfl, by decide, _, rfl, by kernel_rfl, by kernel_rfl⟩
noncomputable def fd269 : FD := { fn := Tryz.f269, hs := [] }
theorem fok269 : FOk 269 fd269 := ⟨Tryz.func269, by kernel_rfl, by decide, _, rfl, by kernel_rfl, by kernel_rfl⟩
noncomputable def fd262 : FD := { fn := Tryz.f262, hs := [] }
theorem fok262 : FOk 262 fd262 := ⟨Tryz.func262, by kernel_rfl, by decide, _, rfl, by kernel_rfl, by kernel_rfl⟩
noncomputable def fd287 : FD := { fn := Tryz.f287, hs := [(6, { dr := some (15, [2, 3, 4], [[2, 3, 4], [], []]) })] }
theorem fok287 : FOk 287 fd287 := ⟨Tryz.func287, by kernel_rfl, by decide, _, rfl, by kernel_rfl, by kernel_rfl⟩
noncomputable def fd288 : FD := { fn := Tryz.f288, hs := [(10, { dr := some (17, [2, 3, 4, 5], [[2, 3, 4, 5], [], []]) })] }
theorem fok288 : FOk 288 fd288 := ⟨Tryz.func288, by kernel_rfl, by decide, _, rfl, by kernel_rfl, by kernel_rfl⟩
noncomputable def fd289 : FD := { fn := Tryz.f289, hs := [(10, { dr := some (17, [2, 3, 4, 5], [[2, 3, 4, 5], [], []]) })] }
theorem fok289 : FOk 289 fd289 := ⟨Tryz.func289, by kernel_rfl, by decide, _, rfl, by kernel_rfl, by kernel_rfl⟩
noncomputable def fd290 : FD := { fn := Tryz.f290, hs := [] }
theorem fok290 : FOk 290 fd290 := ⟨Tryz.func290, by kernel_rfl, by decide, _, rfl, by kernel_rfl, by kernel_rfl⟩
noncomputable def fd291 : FD := { fn := Tryz.f291, hs := [(3, { dr := some (13, [2, 3], [[2, 3], [], []]) })] }
theorem fok291 : FOk 291 fd291 := ⟨Tryz.func291, by kernel_rfl, by decide, _, rfl, by kernel_rfl, by kernel_rfl⟩
noncomputable def fd292 : FD := { fn := Tryz.f292, hs := [(11, { dr := some (15, [2, 3, 4], [[2, 3, 4], [], []]) }), (17, { dr := some (15, [2, 3, 4], [[2, 3, 4], [], []]) }), (23, { dr := some (15, [2, 3, 4], [[2, 3, 4], [], []]) })] }
theorem fok292 : FOk 292 fd292 := ⟨Tryz.func292, by kernel_rfl, by decide, _, rfl, by kernel_rfl, by kernel_rfl⟩
noncomputable def fd293 : FD := { fn := Tryz.f293, hs := [(1, { dr := some (13, [2, 3], [[2, 3], [], []]) }), (8, { dr := some (13, [2, 3], [[2, 3], [], []]) })] }
theorem fok293 : FOk 293 fd293 := ⟨Tryz.func293, by kernel_rfl, by decide, _, rfl, by kernel_rfl, by kernel_rfl⟩
noncomputable def fd294 : FD := { fn := Tryz.f294, hs := [(1, { dr := some (13, [2, 3], [[2, 3], [], []]) }), (8, { dr := some (13, [2, 3], [[2, 3], [], []]) }), (10, { dr := some (13, [2, 3], [[2, 3], [], []]) }), (18, { dr := some (13, [2, 3], [[2, 3], [], []]) }), (21, { dr := some (13, [2, 3], [[2, 3], [], []]) })] }
theorem fok294 : FOk 294 fd294 := ⟨Tryz.func294, by kernel_rfl, by decide, _, rfl, by kernel_rfl, by kernel_rfl⟩
noncomputable def fd295 : FD := { fn := Tryz.f295, hs := [] }
theorem fok295 : FOk 295 fd295 := ⟨Tryz.func295, by kernel_rfl, by decide, _, rfl, by kernel_rfl, by kernel_rfl⟩
noncomputable def fd296 : FD := { fn := Tryz.f296, hs := [] }
theorem fok296 : FOk 296 fd296 := ⟨Tryz.func296, by kernel_rfl, by decide, _, rfl, by kernel_rfl, by kernel_rfl⟩
noncomputable def fd222 : FD := { fn := Tryz.f222, hs := [] }
theorem fok222 : FOk 222 fd222 := ⟨Tryz.func222, by kernel_rfl, by decide, _, rfl, by kernel_rfl, by kernel_rfl⟩
noncomputable def fd250 : FD := { fn := Tryz.f250, hs := [] }
theorem fok250 : FOk 250 fd250 := ⟨Tryz.func250, by kernel_rfl, by decide, _, rfl, by kernel_rfl, by kernel_rfl⟩
noncomputable def fd224 : FD := { fn := Tryz.f224, hs := [] }
theorem fok224 : FOk 224 fd224 := ⟨Tryz.func224, by kernel_rfl, by decide, _, rfl, by kernel_rfl, by kernel_rfl⟩
noncomputable def fd275 : FD := { fn := Tryz.f275, hs := [] }
theorem fok275 : FOk 275 fd275 := ⟨Tryz.func275, by kernel_rfl, by decide, _, rfl, by kernel_rfl, by kernel_rfl⟩
noncomputable def fd276 : FD := { fn := Tryz.f276, hs := [] }
theorem fok276 : FOk 276 fd276 := ⟨Tryz.func276, by kernel_rfl, by decide, _, rfl, by kernel_rfl, by kernel_rfl⟩
noncomputable def fd277 : FD := { fn := Tryz.f277, hs := [] }
theorem fok277 : FOk 277 fd277 := ⟨Tryz.func277, by kernel_rfl, by decide, _, rfl, by kernel_rfl, by kernel_rfl⟩
noncomputable def fd278 : FD := { fn := Tryz.f278, hs := [] }
theorem fok278 : FOk 278 fd278 := ⟨Tryz.func278, by kernel_rfl, by decide, _, rfl, by kernel_rfl, by kernel_rfl⟩
noncomputable def fd279 : FD := { fn := Tryz.f279, hs := [] }
theorem fok279 : FOk 279 fd279 := ⟨Tryz.func279, by kernel_rfl, by decide, _, rfl, by kernel_rfl, by kernel_rfl⟩
noncomputable def fd297 : FD := { fn := Tryz.f297, hs := [] }
theorem fok297 : FOk 297 fd297 := ⟨Tryz.func297, by kernel_rfl, by decide, _, rfl, by kernel_rfl, by kernel_rfl⟩
noncomputable def fd298 : FD := { fn := Tryz.f298, hs := [] }
theorem fok298 : FOk 298 fd298 := ⟨Tryz.func298, by kernel_rfl, by decide, _, rfl, by kernel_rfl, by kernel_rfl⟩
noncomputable def fd263 : FD := { fn := Tryz.f263, hs := [] }
theorem fok263 : FOk 263 fd263 := ⟨Tryz.func263, by kernel_rfl, by decide, _, rfl, by kernel_rfl, by kernel_rfl⟩
noncomputable def fd280 : FD := { fn := Tryz.f280, hs := [] }
theorem fok280 : FOk 280 fd280 := ⟨Tryz.func280, by kernel_rfl, by decide, _, rfl, by kernel_rfl, by kernel_rfl⟩
noncomputable def fd281 : FD := { fn := Tryz.f281, hs := [] }
theorem fok281 : FOk 281 fd281 := ⟨Tryz.func281, by kernel_rfl, by decide, _, rfl, by kernel_rfl, by kernel_rfl⟩
noncomputable def fd282 : FD := { fn := Tryz.f282, hs := [] }
theorem fok282 : FOk 282 fd282 := ⟨Tryz.func282, by kernel_rfl, by decide, _, rfl, by kernel_rfl, by kernel_rfl⟩
noncomputable def fd283 : FD := { fn := Tryz.f283, hs := [] }
theorem fok283 : FOk 283 fd283 := ⟨Tryz.func283, by kernel_rfl, by decide, _, rfl, by kernel_rfl, by kernel_rfl⟩
noncomputable def fd284 : FD := { fn := Tryz.f284, hs := [] }
theorem fok284 : FOk 284 fd284 := ⟨Tryz.func284, by kernel_rfl, by decide, _, rfl, by kernel_rfl, by kernel_rfl⟩
noncomputable def fd285 : FD := { fn := Tryz.f285, hs := [] }
theorem fok285 : FOk 285 fd285 := ⟨Tryz.func285, by kernel_rfl, by decide, _, rfl, by kernel_rfl, by kernel_rfl⟩
noncomputable def fd304 : FD := { fn := Tryz.f304, hs := [(6, { dr := some (21, [4, 5, 6, 7], [[4, 5, 6, 7], [], []]) })] }
theorem fok304 : FOk 304 fd304 := ⟨Tryz.func304, by kernel_rfl, by decide, _, rfl, by kernel_rfl, by kernel_rfl⟩
noncomputable def fd305 : FD := { fn := Tryz.f305, hs := [] }
theorem fok305 : FOk 305 fd305 := ⟨Tryz.func305, by kernel_rfl, by decide, _, rfl, by kernel_rfl, by kernel_rfl⟩
noncomputable def fd299 : FD := { fn := Tryz.f299, hs := [] }
theorem fok299 : FOk 299 fd299 := ⟨Tryz.func299, by kernel_rfl, by decide, _, rfl, by kernel_rfl, by kernel_rfl⟩
noncomputable def fd300 : FD := { fn := Tryz.f300, hs := [] }
theorem fok300 : FOk 300 fd300 := ⟨Tryz.func300, by kernel_rfl, by decide, _, rfl, by kernel_rfl, by kernel_rfl⟩
noncomputable def fd303 : FD := { fn := Tryz.f303, hs := [] }
theorem fok303 : FOk 303 fd303 := ⟨Tryz.func303, by kernel_rfl, by decide, _, rfl, by kernel_rfl, by kernel_rfl⟩
noncomputable def FL : List (Nat × FD) := [(17, fd17), (18, fd18), (22, fd22), (27, fd27), (42, fd42), (54, fd54), (55, fd55), (56, fd56), (60, fd60), (61, fd61), (62, fd62), (64, fd64), (65, fd65), (48, fd48), (95, fd95), (96, fd96), (97, fd97), (68, fd68), (81, fd81), (106, fd106), (107, fd107), (108, fd108), (109, fd109), (110, fd110), (90, fd90), (111, fd111), (113, fd113), (114, fd114), (115, fd115), (116, fd116), (117, fd117), (47, fd47), (91, fd91), (119, fd119), (120, fd120), (121, fd121), (122, fd122), (93, fd93), (118, fd118), (161, fd161), (162, fd162), (163, fd163), (124, fd124), (125, fd125), (143, fd143), (123, fd123), (173, fd173), (147, fd147), (112, fd112), (94, fd94), (177, fd177), (178, fd178), (179, fd179), (180, fd180), (150, fd150), (181, fd181), (92, fd92), (148, fd148), (149, fd149), (151, fd151), (152, fd152), (153, fd153), (154, fd154), (155, fd155), (182, fd182), (183, fd183), (225, fd225), (140, fd140), (226, fd226), (227, fd227), (66, fd66), (188, fd188), (189, fd189), (190, fd190), (191, fd191), (192, fd192), (193, fd193), (194, fd194), (184, fd184), (185, fd185), (186, fd186), (187, fd187), (174, fd174), (175, fd175), (235, fd235), (236, fd236), (237, fd237), (238, fd238), (136, fd136), (156, fd156), (157, fd157), (211, fd211), (212, fd212), (213, fd213), (214, fd214), (215, fd215), (216, fd216), (217, fd217), (218, fd218), (219, fd219), (264, fd264), (203, fd203), (204, fd204), (205, fd205), (206, fd206), (265, fd265), (241, fd241), (242, fd242), (243, fd243), (244, fd244), (245, fd245), (246, fd246), (247, fd247), (248, fd248), (223, fd223), (239, fd239), (240, fd240), (232, fd232), (267, fd267), (268, fd268), (158, fd158), (200, fd200), (220, fd220), (221, fd221), (159, fd159), (160, fd160), (255, fd255), (256, fd256), (257, fd257), (258, fd258), (259, fd259), (260, fd260), (261, fd261), (231, fd231), (270, fd270), (269, fd269), (262, fd262), (287, fd287), (288, fd288), (289, fd289), (290, fd290), (291, fd291), (292, fd292), (293, fd293), (294, fd294), (295, fd295), (296, fd296), (222, fd222), (250, fd250), (224, fd224), (275, fd275), (276, fd276), (277, fd277), (278, fd278), (279, fd279), (297, fd297), (298, fd298), (263, fd263), (280, fd280), (281, fd281), (282, fd282), (283, fd283), (284, fd284), (285, fd285), (304, fd304), (305, fd305), (299, fd299), (300, fd300), (303, fd303)]
theorem FL_ok : FdOk FL := FdOk.cons fok17 (FdOk.cons fok18 (FdOk.cons fok22 (FdOk.cons fok27 (FdOk.cons fok42 (FdOk.cons fok54 (FdOk.cons fok55 (FdOk.cons fok56 (FdOk.cons fok60 (FdOk.cons fok61 (FdOk.cons fok62 (FdOk.cons fok64 (FdOk.cons fok65 (FdOk.cons fok48 (FdOk.cons fok95 (FdOk.cons fok96 (FdOk.cons fok97 (FdOk.cons fok68 (FdOk.cons fok81 (FdOk.cons fok106 (FdOk.cons fok107 (FdOk.cons fok108 (FdOk.cons fok109 (FdOk.cons fok110 (FdOk.cons fok90 (FdOk.cons fok111 (FdOk.cons fok113 (FdOk.cons fok114 (FdOk.cons fok115 (FdOk.cons fok116 (FdOk.cons fok117 (FdOk.cons fok47 (FdOk.cons fok91 (FdOk.cons fok119 (FdOk.cons fok120 (FdOk.cons fok121 (FdOk.cons fok122 (FdOk.cons fok93 (FdOk.cons fok118 (FdOk.cons fok161 (FdOk.cons fok162 (FdOk.cons fok163 (FdOk.cons fok124 (FdOk.cons fok125 (FdOk.cons fok143 (FdOk.cons fok123 (FdOk.cons fok173 (FdOk.cons fok147 (FdOk.cons fok112 (FdOk.cons fok94 (FdOk.cons fok177 (FdOk.cons fok178 (FdOk.cons fok179 (FdOk.cons fok180 (FdOk.cons fok150 (FdOk.cons fok181 (FdOk.cons fok92 (FdOk.cons fok148 (FdOk.cons fok149 (FdOk.cons fok151 (FdOk.cons fok152 (FdOk.cons fok153 (FdOk.cons fok154 (FdOk.cons fok155 (FdOk.cons fok182 (FdOk.cons fok183 (FdOk.cons fok225 (FdOk.cons fok140 (FdOk.cons fok226 (FdOk.cons fok227 (FdOk.cons fok66 (FdOk.cons fok188 (FdOk.cons fok189 (FdOk.cons fok190 (FdOk.cons fok191 (FdOk.cons fok192 (FdOk.cons fok193 (FdOk.cons fok194 (FdOk.cons fok184 (FdOk.cons fok185 (FdOk.cons fok186 (FdOk.cons fok187 (FdOk.cons fok174 (FdOk.cons fok175 (FdOk.cons fok235 (FdOk.cons fok236 (FdOk.cons fok237 (FdOk.cons fok238 (FdOk.cons fok136 (FdOk.cons fok156 (FdOk.cons fok157 (FdOk.cons fok211 (FdOk.cons fok212 (FdOk.cons fok213 (FdOk.cons fok214 (FdOk.cons fok215 (FdOk.cons fok216 (FdOk.cons fok217 (FdOk.cons fok218 (FdOk.cons fok219 (FdOk.cons fok264 (FdOk.cons fok203 (FdOk.cons fok204 (FdOk.cons fok205 (FdOk.cons fok206 (FdOk.cons fok265 (FdOk.cons fok241 (FdOk.cons fok242 (FdOk.cons fok243 (FdOk.cons fok244 (FdOk.cons fok245 (FdOk.cons fok246 (FdOk.cons fok247 (FdOk.cons fok248 (FdOk.cons fok223 (FdOk.cons fok239 (FdOk.cons fok240 (FdOk.cons fok232 (FdOk.cons fok267 (FdOk.cons fok268 (FdOk.cons fok158 (FdOk.cons fok200 (FdOk.cons fok220 (FdOk.cons fok221 (FdOk.cons fok159 (FdOk.cons fok160 (FdOk.cons fok255 (FdOk.cons fok256 (FdOk.cons fok257 (FdOk.cons fok258 (FdOk.cons fok259 (FdOk.cons fok260 (FdOk.cons fok261 (FdOk.cons fok231 (FdOk.cons fok270 (FdOk.cons fok269 (FdOk.cons fok262 (FdOk.cons fok287 (FdOk.cons fok288 (FdOk.cons fok289 (FdOk.cons fok290 (FdOk.cons fok291 (FdOk.cons fok292 (FdOk.cons fok293 (FdOk.cons fok294 (FdOk.cons fok295 (FdOk.cons fok296 (FdOk.cons fok222 (FdOk.cons fok250 (FdOk.cons fok224 (FdOk.cons fok275 (FdOk.cons fok276 (FdOk.cons fok277 (FdOk.cons fok278 (FdOk.cons fok279 (FdOk.cons fok297 (FdOk.cons fok298 (FdOk.cons fok263 (FdOk.cons fok280 (FdOk.cons fok281 (FdOk.cons fok282 (FdOk.cons fok283 (FdOk.cons fok284 (FdOk.cons fok285 (FdOk.cons fok304 (FdOk.cons fok305 (FdOk.cons fok299 (FdOk.cons fok300 (FdOk.cons fok303 (FdOk.nil)))))))))))))))))))))))))))))))))))))))))))))))))))))))))))))))))))))))))))))))))))))))))))))))))))))))))))))))))))))))))))))))))))))))))))))))))))))))))))))))))))))))))
end Go.Pw
