/- Hints for the interpreter: what is kept at loops, their ways out, the functions with known contracts; the code of loops. -/
import Derived.Test.YtmocefjnplmibaaGreatDoorDn5
import Derived.Test.YtmocefjnplmibaaGreatDoorProg
import Derived.KernelRfl
namespace Go.Proofs.YtmocefjnplmibaaGreatDoor
open Go Go.Den
set_option maxRecDepth 100000

noncomputable abbrev PP := Go.Proofs.Tryz.prog
abbrev num (n : Int) : AV := .e (.int .i64 n)
abbrev yes (b : Bool) : AV := .e (.bool b)
abbrev str (s : List UInt8) : AV := .e (.str s)
abbrev uu : AV := .undef
def liveD (f i : Nat) : List Nat :=
  match f, i with
  | 4, 7 => [0, 3, 4]
  | 12, 6 => [0, 4, 5, 6]
  | 13, 3 => [0, 4, 5]
  | 14, 3 => [0, 3, 4]
  | 15, 3 => [0, 3, 4]
  | 17, 4 => [1, 18, 19, 20]
  | 22, 4 => [2, 4, 5, 6]
  | 29, 2 => [0, 3]
  | 31, 4 => [0, 3]
  | 45, 3 => [3, 6, 7, 8]
  | 52, 3 => [0, 3, 4]
  | 54, 3 => [0, 3, 4]
  | 57, 2 => [0, 3]
  | 62, 4 => [0, 3, 4, 5]
  | 69, 4 => [0, 1, 5]
  | 73, 4 => [15]
  | 75, 4 => [0, 8, 9, 10]
  | 78, 4 => [3, 43, 44, 45]
  | 79, 4 => [3, 71, 72, 73]
  | 80, 4 => [0, 3]
  | 93, 3 => [2, 3, 4]
  | 97, 2 => [0, 3]
  | 99, 15 => [0, 4, 6, 7]
  | 99, 7 => [0, 4, 5]
  | 101, 3 => [0, 3, 4]
  | 105, 5 => [0, 3, 4, 5]
  | 105, 2 => [0, 3]
  | 108, 4 => [0, 3]
  | 109, 4 => [9]
  | 113, 4 => [0, 3]
  | 114, 2 => [0, 1, 5]
  | 122, 5 => [3, 4]
  | 127, 5 => [3, 15]
  | 128, 4 => [0, 3]
  | 144, 4 => [0, 3, 4, 5]
  | _, _ => []
def outsD (f i : Nat) : List (Den.Way × Fr × Heap) :=
  match f, i with
  | 4, 7 => [(.exit 0, (((List.replicate 59 AV.undef).set 0 (.e (.str []))).set 3 (.e (.str []))), []), (.ret, ((List.replicate 59 AV.undef).set 2 (.e (.bool false))), [])]
  | 12, 6 => [(.exit 0, (((List.replicate 70 AV.undef).set 0 (.e (.str []))).set 5 (.own 0 5 [])), [.vec 5 0]), (.ret, (((List.replicate 70 AV.undef).set 2 (.e (.str []))).set 3 (.e (.int .i64 0))), [])]
  | 13, 3 => [(.exit 0, (((List.replicate 60 AV.undef).set 0 (.e (.str []))).set 4 (.e (.str []))), [])]
  | 14, 3 => [(.exit 0, ((List.replicate 57 AV.undef).set 3 (.own 0 5 [])), [.vec 5 0])]
  | 15, 3 => [(.exit 0, ((List.replicate 19 AV.undef).set 3 (.e (.str []))), [])]
  | 17, 4 => [(.exit 0, ((List.replicate 38 AV.undef).set 1 (.ptr 0 0)), [.box [.e (.int .i64 0), .e (.int .i64 0), .e (.int .i64 0), .e (.int .i64 0), .e (.int .i64 0), .e (.bool false), .e (.str []), .e (.str []), .e (.str []), .e (.int .i64 0), .e (.str []), .e (.str []), .e (.int .i64 0), .e (.int .i64 0), .e (.int .i64 0), .e (.str []), .e (.str []), .e (.str []), .e (.str []), .e (.bool false), .e (.sl 97 []), .e (.str []), .e (.str []), .e (.int .i64 0), .e (.bool false), .e (.int .i64 0), .e (.int .i64 0), .e (.str []), .e (.int .i64 0), .e (.sl 97 [])]]), (.ret, ((List.replicate 38 AV.undef).set 2 (.e (.int .i64 0))), [])]
  | 22, 4 => [(.exit 0, ((((List.replicate 72 AV.undef).set 2 (.ptr 0 0)).set 4 (.e (.sl 9 []))).set 5 (.e (.int .i64 0))), [.box [.e (.int .i64 0), .e (.int .i64 0), .e (.int .i64 0), .e (.int .i64 0), .e (.int .i64 0), .e (.bool false), .e (.str []), .e (.str []), .e (.str []), .e (.int .i64 0), .e (.str []), .e (.str []), .e (.int .i64 0), .e (.int .i64 0), .e (.int .i64 0), .e (.str []), .e (.str []), .e (.str []), .e (.str []), .e (.bool false), .own 1 97 [], .e (.str []), .e (.str []), .e (.int .i64 0), .e (.bool false), .e (.int .i64 0), .e (.int .i64 0), .e (.str []), .e (.int .i64 0), .own 2 97 []], .vec 97 0, .vec 97 0])]
  | 29, 2 => [(.exit 0, (List.replicate 13 AV.undef), []), (.ret, ((List.replicate 13 AV.undef).set 2 (.e (.int .i64 0))), [])]
  | 31, 4 => [(.exit 0, (List.replicate 29 AV.undef), []), (.ret, ((List.replicate 29 AV.undef).set 2 (.e (.bool false))), [])]
  | 45, 3 => [(.exit 0, ((List.replicate 24 AV.undef).set 3 (.own 0 9 [])), [.vec 9 0])]
  | 52, 3 => [(.exit 0, ((List.replicate 28 AV.undef).set 3 (.own 0 9 [])), [.vec 9 0])]
  | 54, 3 => [(.exit 0, ((List.replicate 22 AV.undef).set 3 (.e (.str []))), [])]
  | 57, 2 => [(.exit 0, (List.replicate 13 AV.undef), []), (.ret, ((List.replicate 13 AV.undef).set 2 (.e (.int .i64 0))), [])]
  | 62, 4 => [(.exit 0, ((((List.replicate 31 AV.undef).set 0 (.e (.str []))).set 3 (.own 0 9 [])).set 4 (.e (.int .i64 0))), [.vec 9 0])]
  | 69, 4 => [(.exit 0, (List.replicate 26 AV.undef), []), (.ret, ((List.replicate 26 AV.undef).set 4 (.e (.bool false))), [])]
  | 73, 4 => [(.exit 0, (List.replicate 44 AV.undef), []), (.ret, ((List.replicate 44 AV.undef).set 2 (.e (.bool false))), [])]
  | 75, 4 => [(.exit 0, (List.replicate 40 AV.undef), []), (.ret, ((List.replicate 40 AV.undef).set 2 (.e (.int .i64 0))), [])]
  | 78, 4 => [(.exit 0, (List.replicate 58 AV.undef), []), (.ret, ((List.replicate 58 AV.undef).set 4 (.e (.bool false))), [])]
  | 79, 4 => [(.exit 0, (List.replicate 86 AV.undef), []), (.ret, ((List.replicate 86 AV.undef).set 4 (.e (.bool false))), [])]
  | 80, 4 => [(.exit 0, (List.replicate 42 AV.undef), []), (.ret, ((List.replicate 42 AV.undef).set 2 (.e (.bool false))), [])]
  | 93, 3 => [(.exit 0, ((List.replicate 18 AV.undef).set 2 (.e (.int .i64 0))), [.box [.e (.sl 9 []), .e (.int .i64 0)]]), (.ret, ((List.replicate 18 AV.undef).set 2 (.e (.int .i64 0))), [.box [.e (.sl 9 []), .e (.int .i64 0)]]), (.pan, (List.replicate 18 AV.undef), [.box [.e (.sl 9 []), .e (.int .i64 0)]])]
  | 97, 2 => [(.exit 0, ((List.replicate 37 AV.undef).set 3 (.own 1 97 [])), [.box [.e (.sl 9 []), .e (.int .i64 0)], .vec 97 0]), (.pan, (List.replicate 37 AV.undef), [.box [.e (.sl 9 []), .e (.int .i64 0)]])]
  | 99, 15 => [(.exit 2, ((((List.replicate 75 AV.undef).set 0 (.e (.str []))).set 4 (.e (.int .i64 0))).set 6 (.e (.int .i64 0))), [])]
  | 99, 7 => [(.exit 0, (((List.replicate 75 AV.undef).set 0 (.e (.str []))).set 4 (.e (.int .i64 0))), []), (.ret, (((List.replicate 75 AV.undef).set 2 (.e (.int .i64 0))).set 3 (.e (.int .i64 0))), [])]
  | 101, 3 => [(.exit 0, ((List.replicate 18 AV.undef).set 0 (.ptr 0 0)), [.box [.e (.sl 9 []), .e (.int .i64 0), .e (.int .i64 0)]]), (.ret, ((List.replicate 18 AV.undef).set 2 (.e (.int .i64 0))), [.box [.e (.sl 9 []), .e (.int .i64 0), .e (.int .i64 0)]])]
  | 105, 5 => [(.exit 2, (((((List.replicate 65 AV.undef).set 0 (.ptr 0 0)).set 3 (.own 1 97 [])).set 4 (.e (.str []))).set 5 (.e (.int .i64 0))), [.box [.e (.sl 9 []), .e (.int .i64 0), .e (.int .i64 0)], .vec 97 0])]
  | 105, 2 => [(.exit 0, ((List.replicate 65 AV.undef).set 3 (.own 1 97 [])), [.box [.e (.sl 9 []), .e (.int .i64 0), .e (.int .i64 0)], .vec 97 0]), (.ret, ((List.replicate 65 AV.undef).set 2 (.own 1 97 [])), [.box [.e (.sl 9 []), .e (.int .i64 0), .e (.int .i64 0)], .vec 97 0])]
  | 108, 4 => [(.exit 0, (List.replicate 40 AV.undef), []), (.ret, ((List.replicate 40 AV.undef).set 2 (.e (.bool false))), [])]
  | 109, 4 => [(.exit 0, (List.replicate 19 AV.undef), []), (.ret, ((List.replicate 19 AV.undef).set 2 (.e (.bool false))), [])]
  | 113, 4 => [(.exit 0, (List.replicate 43 AV.undef), []), (.ret, ((List.replicate 43 AV.undef).set 2 (.e (.int .i64 0))), [])]
  | 114, 2 => [(.exit 0, (List.replicate 17 AV.undef), []), (.ret, ((List.replicate 17 AV.undef).set 4 (.e (.bool false))), [])]
  | 122, 5 => [(.exit 0, (List.replicate 34 AV.undef), []), (.ret, ((List.replicate 34 AV.undef).set 2 (.e (.bool false))), [])]
  | 127, 5 => [(.exit 0, ((List.replicate 28 AV.undef).set 3 (.e (.int .i64 0))), []), (.ret, ((List.replicate 28 AV.undef).set 2 (.e (.bool false))), [])]
  | 128, 4 => [(.exit 0, (List.replicate 42 AV.undef), []), (.ret, ((List.replicate 42 AV.undef).set 2 (.e (.bool false))), [])]
  | 144, 4 => [(.exit 0, ((((List.replicate 31 AV.undef).set 0 (.e (.str []))).set 3 (.own 0 9 [])).set 4 (.e (.int .i64 0))), [.vec 9 0])]
  | _, _ => []
def pansD (f : FuncId) : Bool := [59, 92, 96, 95, 94, 97, 93, 98, 61].contains f
noncomputable def primL0 (md : Den.Mode) (f : FuncId) : Option (List AV → Heap → T) :=
  match md with
  | some _ => none
  | none =>
    match f with
    | 11 => some trueG
    | 70 => some indexG
    | 121 => some index1G
    | 56 => some (splitG 9)
    | 123 => some atoiX
    | 41 => some itoaG
    | 47 => some joinG
    | 139 => some index1G
    | _ => none
noncomputable def HL0 : Hints := { prim := primL0, live := liveD, pans := pansD, outs := outsD, post := fun _ => none, exact := false }
noncomputable def primL1 (md : Den.Mode) (f : FuncId) : Option (List AV → Heap → T) :=
  match md with
  | some _ => none
  | none =>
    match f with
    | 11 => some trueG
    | 70 => some indexG
    | 121 => some index1G
    | 56 => some (splitG 9)
    | 123 => some atoiX
    | 41 => some itoaG
    | 47 => some joinG
    | 139 => some index1G
    | 143 => some (inl Go.Proofs.Tryz.prog HL0 143)
    | 163 => some (inl Go.Proofs.Tryz.prog HL0 163)
    | _ => none
noncomputable def HL1 : Hints := { prim := primL1, live := liveD, pans := pansD, outs := outsD, post := fun _ => none, exact := false }
noncomputable def primL2 (md : Den.Mode) (f : FuncId) : Option (List AV → Heap → T) :=
  match md with
  | some _ => none
  | none =>
    match f with
    | 11 => some trueG
    | 70 => some indexG
    | 121 => some index1G
    | 56 => some (splitG 9)
    | 123 => some atoiX
    | 41 => some itoaG
    | 47 => some joinG
    | 139 => some index1G
    | 143 => some (inl Go.Proofs.Tryz.prog HL0 143)
    | 163 => some (inl Go.Proofs.Tryz.prog HL0 163)
    | 154 => some (inl Go.Proofs.Tryz.prog HL1 154)
    | _ => none
noncomputable def HL2 : Hints := { prim := primL2, live := liveD, pans := pansD, outs := outsD, post := fun _ => none, exact := false }
noncomputable def primD (md : Den.Mode) (f : FuncId) : Option (List AV → Heap → T) :=
  match md with
  | some _ => none
  | none =>
    match f with
    | 11 => some trueG
    | 70 => some indexG
    | 121 => some index1G
    | 56 => some (splitG 9)
    | 123 => some atoiX
    | 41 => some itoaG
    | 47 => some joinG
    | 139 => some index1G
    | 143 => some (inl Go.Proofs.Tryz.prog HL0 143)
    | 163 => some (inl Go.Proofs.Tryz.prog HL0 163)
    | 154 => some (inl Go.Proofs.Tryz.prog HL1 154)
    | 125 => some (inl Go.Proofs.Tryz.prog HL2 125)
    | 140 => some (inl Go.Proofs.Tryz.prog HL2 140)
    | 59 => some (inl Go.Proofs.Tryz.prog HL2 59)
    | 58 => some (inl Go.Proofs.Tryz.prog HL2 58)
    | 124 => some (inl Go.Proofs.Tryz.prog HL2 124)
    | 100 => some (inl Go.Proofs.Tryz.prog HL2 100)
    | 67 => some (inl Go.Proofs.Tryz.prog HL2 67)
    | _ => none
def rcvdD (f : FuncId) : Option Heap :=
  match f with
  | 55 => some [.box [.e (.int .i64 0), .e (.int .i64 0), .e (.int .i64 0), .e (.int .i64 0), .e (.int .i64 0), .e (.bool false), .e (.str []), .e (.str []), .e (.str []), .e (.int .i64 0), .e (.str []), .e (.str []), .e (.int .i64 0), .e (.int .i64 0), .e (.int .i64 0), .e (.str []), .e (.str []), .e (.str []), .e (.str []), .e (.bool false), .own 2 97 [], .e (.str []), .e (.str []), .e (.int .i64 0), .e (.bool false), .e (.int .i64 0), .e (.int .i64 0), .e (.str []), .e (.int .i64 0), .own 3 97 []], .box [.e (.int .i64 0)], .vec 97 0, .vec 97 0]
  | _ => none
noncomputable def HH : Hints := { prim := primD, live := liveD, pans := pansD, outs := outsD, post := fun _ => none, exact := false, rcvd := rcvdD }
def loopAt (i : Nat) : Code → Option Code
  | .loop b => if firstRegion b = some i then some b else loopAt i b
  | .seq a b => match loopAt i a with | some c => some c | none => loopAt i b
  | .cond _ a b => match loopAt i a with | some c => some c | none => loopAt i b
  | .block _ b => loopAt i b
  | _ => none
noncomputable def lc_4_7 : Code := (((Go.Proofs.Tryz.prog.funcs[4]?).bind (·.body)).bind (loopAt 7)).getD .skip
noncomputable def lc_12_6 : Code := (((Go.Proofs.Tryz.prog.funcs[12]?).bind (·.body)).bind (loopAt 6)).getD .skip
noncomputable def lc_13_3 : Code := (((Go.Proofs.Tryz.prog.funcs[13]?).bind (·.body)).bind (loopAt 3)).getD .skip
noncomputable def lc_14_3 : Code := (((Go.Proofs.Tryz.prog.funcs[14]?).bind (·.body)).bind (loopAt 3)).getD .skip
noncomputable def lc_15_3 : Code := (((Go.Proofs.Tryz.prog.funcs[15]?).bind (·.body)).bind (loopAt 3)).getD .skip
noncomputable def lc_17_4 : Code := (((Go.Proofs.Tryz.prog.funcs[17]?).bind (·.body)).bind (loopAt 4)).getD .skip
noncomputable def lc_22_4 : Code := (((Go.Proofs.Tryz.prog.funcs[22]?).bind (·.body)).bind (loopAt 4)).getD .skip
noncomputable def lc_29_2 : Code := (((Go.Proofs.Tryz.prog.funcs[29]?).bind (·.body)).bind (loopAt 2)).getD .skip
noncomputable def lc_31_4 : Code := (((Go.Proofs.Tryz.prog.funcs[31]?).bind (·.body)).bind (loopAt 4)).getD .skip
noncomputable def lc_45_3 : Code := (((Go.Proofs.Tryz.prog.funcs[45]?).bind (·.body)).bind (loopAt 3)).getD .skip
noncomputable def lc_52_3 : Code := (((Go.Proofs.Tryz.prog.funcs[52]?).bind (·.body)).bind (loopAt 3)).getD .skip
noncomputable def lc_54_3 : Code := (((Go.Proofs.Tryz.prog.funcs[54]?).bind (·.body)).bind (loopAt 3)).getD .skip
noncomputable def lc_57_2 : Code := (((Go.Proofs.Tryz.prog.funcs[57]?).bind (·.body)).bind (loopAt 2)).getD .skip
noncomputable def lc_62_4 : Code := (((Go.Proofs.Tryz.prog.funcs[62]?).bind (·.body)).bind (loopAt 4)).getD .skip
noncomputable def lc_69_4 : Code := (((Go.Proofs.Tryz.prog.funcs[69]?).bind (·.body)).bind (loopAt 4)).getD .skip
noncomputable def lc_73_4 : Code := (((Go.Proofs.Tryz.prog.funcs[73]?).bind (·.body)).bind (loopAt 4)).getD .skip
noncomputable def lc_75_4 : Code := (((Go.Proofs.Tryz.prog.funcs[75]?).bind (·.body)).bind (loopAt 4)).getD .skip
noncomputable def lc_78_4 : Code := (((Go.Proofs.Tryz.prog.funcs[78]?).bind (·.body)).bind (loopAt 4)).getD .skip
noncomputable def lc_79_4 : Code := (((Go.Proofs.Tryz.prog.funcs[79]?).bind (·.body)).bind (loopAt 4)).getD .skip
noncomputable def lc_80_4 : Code := (((Go.Proofs.Tryz.prog.funcs[80]?).bind (·.body)).bind (loopAt 4)).getD .skip
noncomputable def lc_93_3 : Code := (((Go.Proofs.Tryz.prog.funcs[93]?).bind (·.body)).bind (loopAt 3)).getD .skip
noncomputable def lc_97_2 : Code := (((Go.Proofs.Tryz.prog.funcs[97]?).bind (·.body)).bind (loopAt 2)).getD .skip
noncomputable def lc_99_15 : Code := (((Go.Proofs.Tryz.prog.funcs[99]?).bind (·.body)).bind (loopAt 15)).getD .skip
noncomputable def lc_99_7 : Code := (((Go.Proofs.Tryz.prog.funcs[99]?).bind (·.body)).bind (loopAt 7)).getD .skip
noncomputable def lc_101_3 : Code := (((Go.Proofs.Tryz.prog.funcs[101]?).bind (·.body)).bind (loopAt 3)).getD .skip
noncomputable def lc_105_5 : Code := (((Go.Proofs.Tryz.prog.funcs[105]?).bind (·.body)).bind (loopAt 5)).getD .skip
noncomputable def lc_105_2 : Code := (((Go.Proofs.Tryz.prog.funcs[105]?).bind (·.body)).bind (loopAt 2)).getD .skip
noncomputable def lc_108_4 : Code := (((Go.Proofs.Tryz.prog.funcs[108]?).bind (·.body)).bind (loopAt 4)).getD .skip
noncomputable def lc_109_4 : Code := (((Go.Proofs.Tryz.prog.funcs[109]?).bind (·.body)).bind (loopAt 4)).getD .skip
noncomputable def lc_113_4 : Code := (((Go.Proofs.Tryz.prog.funcs[113]?).bind (·.body)).bind (loopAt 4)).getD .skip
noncomputable def lc_114_2 : Code := (((Go.Proofs.Tryz.prog.funcs[114]?).bind (·.body)).bind (loopAt 2)).getD .skip
noncomputable def lc_122_5 : Code := (((Go.Proofs.Tryz.prog.funcs[122]?).bind (·.body)).bind (loopAt 5)).getD .skip
noncomputable def lc_127_5 : Code := (((Go.Proofs.Tryz.prog.funcs[127]?).bind (·.body)).bind (loopAt 5)).getD .skip
noncomputable def lc_128_4 : Code := (((Go.Proofs.Tryz.prog.funcs[128]?).bind (·.body)).bind (loopAt 4)).getD .skip
noncomputable def lc_144_4 : Code := (((Go.Proofs.Tryz.prog.funcs[144]?).bind (·.body)).bind (loopAt 4)).getD .skip

end Go.Proofs.YtmocefjnplmibaaGreatDoor
