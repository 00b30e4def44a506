/- Facts on the types and functions of the program, each closed. -/
import Derived.Test.YtcplbkbimpiioaaGreatDoorProg
import Derived.Test.YtcplbkbimpiioaaGreatDoorLibW
namespace Go.Proofs.YtcplbkbimpiioaaGreatDoor
open Go Go.RowKit
theorem mixed : Tryz.prog.follows .mixedOrders = true := by kernel_rfl
theorem un3 : Tryz.prog.underlying 3 = some (.int .i64) := Tryz.underlying3
theorem on3 : isOne Tryz.prog 3 = true := by kernel_rfl
theorem sz3 : (Tryz.prog.info? 3).map (·.size) = some 1 := by kernel_rfl
theorem zr3 : (Tryz.prog.info? 3).map (·.zero) = some (some (.int .i64 0 : Value)) := by kernel_rfl
theorem un4 : Tryz.prog.underlying 4 = some (.bool) := Tryz.underlying4
theorem on4 : isOne Tryz.prog 4 = true := by kernel_rfl
theorem sz4 : (Tryz.prog.info? 4).map (·.size) = some 1 := by kernel_rfl
theorem zr4 : (Tryz.prog.info? 4).map (·.zero) = some (some (.bool false : Value)) := by kernel_rfl
theorem un5 : Tryz.prog.underlying 5 = some (.int .u8) := Tryz.underlying5
theorem on5 : isOne Tryz.prog 5 = true := by kernel_rfl
theorem sz5 : (Tryz.prog.info? 5).map (·.size) = some 1 := by kernel_rfl
theorem zr5 : (Tryz.prog.info? 5).map (·.zero) = some (some (.int .u8 0 : Value)) := by kernel_rfl
theorem zs5 : (Tryz.prog.info? 5).map (fun i => (i.zero, i.size)) = some (some (.int .u8 0 : Value), 1) := by kernel_rfl
theorem un9 : Tryz.prog.underlying 9 = some (.string) := Tryz.underlying9
theorem on9 : isOne Tryz.prog 9 = true := by kernel_rfl
theorem zs9 : (Tryz.prog.info? 9).map (fun i => (i.zero, i.size)) = some (some (.string ByteArray.empty : Value), 1) := by kernel_rfl
theorem un22 : Tryz.prog.underlying 22 = some (.slice 32) := Tryz.underlying22
theorem on22 : isOne Tryz.prog 22 = true := by kernel_rfl
theorem sz22 : (Tryz.prog.info? 22).map (·.size) = some 1 := by kernel_rfl
theorem zr22 : (Tryz.prog.info? 22).map (·.zero) = some (some (.slice none 0 0 : Value)) := by kernel_rfl
theorem un23 : Tryz.prog.underlying 23 = some (.slice 42) := Tryz.underlying23
theorem un25 : Tryz.prog.underlying 25 = some (.pointer 67) := Tryz.underlying25
theorem on25 : isOne Tryz.prog 25 = true := by kernel_rfl
theorem un30 : Tryz.prog.underlying 30 = some (.array 4 4) := Tryz.underlying30
theorem ag30 : aggB Tryz.prog 30 4 = true := by kernel_rfl
theorem un32 : Tryz.prog.underlying 32 = some (.array 32 5) := Tryz.underlying32
theorem ag32 : aggB Tryz.prog 32 32 = true := by kernel_rfl
theorem sz32 : (Tryz.prog.info? 32).map (·.size) = some 32 := by kernel_rfl
theorem zr32 : (Tryz.prog.info? 32).map (·.zero) = some (some (.agg #[.int .u8 0, .int .u8 0, .int .u8 0, .int .u8 0, .int .u8 0, .int .u8 0, .int .u8 0, .int .u8 0, .int .u8 0, .int .u8 0, .int .u8 0, .int .u8 0, .int .u8 0, .int .u8 0, .int .u8 0, .int .u8 0, .int .u8 0, .int .u8 0, .int .u8 0, .int .u8 0, .int .u8 0, .int .u8 0, .int .u8 0, .int .u8 0, .int .u8 0, .int .u8 0, .int .u8 0, .int .u8 0, .int .u8 0, .int .u8 0, .int .u8 0, .int .u8 0] : Value)) := by kernel_rfl
theorem zs32 : (Tryz.prog.info? 32).map (fun i => (i.zero, i.size)) = some (some (.agg #[.int .u8 0, .int .u8 0, .int .u8 0, .int .u8 0, .int .u8 0, .int .u8 0, .int .u8 0, .int .u8 0, .int .u8 0, .int .u8 0, .int .u8 0, .int .u8 0, .int .u8 0, .int .u8 0, .int .u8 0, .int .u8 0, .int .u8 0, .int .u8 0, .int .u8 0, .int .u8 0, .int .u8 0, .int .u8 0, .int .u8 0, .int .u8 0, .int .u8 0, .int .u8 0, .int .u8 0, .int .u8 0, .int .u8 0, .int .u8 0, .int .u8 0, .int .u8 0] : Value), 32) := by kernel_rfl
theorem un33 : Tryz.prog.underlying 33 = some (.array 4 32) := Tryz.underlying33
theorem sz35 : (Tryz.prog.info? 35).map (·.size) = some 133 := by kernel_rfl
theorem fo35_0 : fieldOff Tryz.prog 35 0 = some 0 := by kernel_rfl
theorem fo35_1 : fieldOff Tryz.prog 35 1 = some 4 := by kernel_rfl
theorem fo35_2 : fieldOff Tryz.prog 35 2 = some 132 := by kernel_rfl
theorem un36 : Tryz.prog.underlying 36 = some (.array 8 35) := Tryz.underlying36
theorem fo38_0 : fieldOff Tryz.prog 38 0 = some 0 := by kernel_rfl
theorem fo38_1 : fieldOff Tryz.prog 38 1 = some 1 := by kernel_rfl
theorem fo38_2 : fieldOff Tryz.prog 38 2 = some 2 := by kernel_rfl
theorem ag40 : aggB Tryz.prog 40 2 = true := by kernel_rfl
theorem sz40 : (Tryz.prog.info? 40).map (·.size) = some 2 := by kernel_rfl
theorem fo40_0 : fieldOff Tryz.prog 40 0 = some 0 := by kernel_rfl
theorem fo40_1 : fieldOff Tryz.prog 40 1 = some 1 := by kernel_rfl
theorem zr40 : (Tryz.prog.info? 40).map (·.zero) = some (some (.agg #[.int .u8 0, .int .u8 0] : Value)) := by kernel_rfl
theorem sz42 : (Tryz.prog.info? 42).map (·.size) = some 36 := by kernel_rfl
theorem fo42_0 : fieldOff Tryz.prog 42 0 = some 0 := by kernel_rfl
theorem fo42_1 : fieldOff Tryz.prog 42 1 = some 1 := by kernel_rfl
theorem fo42_2 : fieldOff Tryz.prog 42 2 = some 3 := by kernel_rfl
theorem fo42_3 : fieldOff Tryz.prog 42 3 = some 35 := by kernel_rfl
theorem zr42 : (Tryz.prog.info? 42).map (·.zero) = some (some (.agg #[.int .u8 0, .int .u8 0, .int .u8 0, .int .u8 0, .int .u8 0, .int .u8 0, .int .u8 0, .int .u8 0, .int .u8 0, .int .u8 0, .int .u8 0, .int .u8 0, .int .u8 0, .int .u8 0, .int .u8 0, .int .u8 0, .int .u8 0, .int .u8 0, .int .u8 0, .int .u8 0, .int .u8 0, .int .u8 0, .int .u8 0, .int .u8 0, .int .u8 0, .int .u8 0, .int .u8 0, .int .u8 0, .int .u8 0, .int .u8 0, .int .u8 0, .int .u8 0, .int .u8 0, .int .u8 0, .int .u8 0, .string ByteArray.empty] : Value)) := by kernel_rfl
theorem un54 : Tryz.prog.underlying 54 = some (.slice 5) := Tryz.underlying54
theorem on54 : isOne Tryz.prog 54 = true := by kernel_rfl
theorem sz54 : (Tryz.prog.info? 54).map (·.size) = some 1 := by kernel_rfl
theorem zs54 : (Tryz.prog.info? 54).map (fun i => (i.zero, i.size)) = some (some (.slice none 0 0 : Value), 1) := by kernel_rfl
theorem un65 : Tryz.prog.underlying 65 = some (.map 5 68) := Tryz.underlying65
theorem on65 : isOne Tryz.prog 65 = true := by kernel_rfl
theorem fo67_0 : fieldOff Tryz.prog 67 0 = some 0 := by kernel_rfl
theorem fo67_1 : fieldOff Tryz.prog 67 1 = some 1 := by kernel_rfl
theorem fo67_2 : fieldOff Tryz.prog 67 2 = some 2 := by kernel_rfl
theorem un68 : Tryz.prog.underlying 68 = some (.pointer 70) := Tryz.underlying68
theorem ag70 : aggB Tryz.prog 70 133 = true := by kernel_rfl
theorem sz70 : (Tryz.prog.info? 70).map (·.size) = some 133 := by kernel_rfl
theorem fo70_0 : fieldOff Tryz.prog 70 0 = some 0 := by kernel_rfl
theorem fo70_1 : fieldOff Tryz.prog 70 1 = some 128 := by kernel_rfl
theorem fo70_2 : fieldOff Tryz.prog 70 2 = some 132 := by kernel_rfl
theorem zr70 : (Tryz.prog.info? 70).map (·.zero) = some (some (.agg #[.int .u8 0, .int .u8 0, .int .u8 0, .int .u8 0, .int .u8 0, .int .u8 0, .int .u8 0, .int .u8 0, .int .u8 0, .int .u8 0, .int .u8 0, .int .u8 0, .int .u8 0, .int .u8 0, .int .u8 0, .int .u8 0, .int .u8 0, .int .u8 0, .int .u8 0, .int .u8 0, .int .u8 0, .int .u8 0, .int .u8 0, .int .u8 0, .int .u8 0, .int .u8 0, .int .u8 0, .int .u8 0, .int .u8 0, .int .u8 0, .int .u8 0, .int .u8 0, .int .u8 0, .int .u8 0, .int .u8 0, .int .u8 0, .int .u8 0, .int .u8 0, .int .u8 0, .int .u8 0, .int .u8 0, .int .u8 0, .int .u8 0, .int .u8 0, .int .u8 0, .int .u8 0, .int .u8 0, .int .u8 0, .int .u8 0, .int .u8 0, .int .u8 0, .int .u8 0, .int .u8 0, .int .u8 0, .int .u8 0, .int .u8 0, .int .u8 0, .int .u8 0, .int .u8 0, .int .u8 0, .int .u8 0, .int .u8 0, .int .u8 0, .int .u8 0, .int .u8 0, .int .u8 0, .int .u8 0, .int .u8 0, .int .u8 0, .int .u8 0, .int .u8 0, .int .u8 0, .int .u8 0, .int .u8 0, .int .u8 0, .int .u8 0, .int .u8 0, .int .u8 0, .int .u8 0, .int .u8 0, .int .u8 0, .int .u8 0, .int .u8 0, .int .u8 0, .int .u8 0, .int .u8 0, .int .u8 0, .int .u8 0, .int .u8 0, .int .u8 0, .int .u8 0, .int .u8 0, .int .u8 0, .int .u8 0, .int .u8 0, .int .u8 0, .int .u8 0, .int .u8 0, .int .u8 0, .int .u8 0, .int .u8 0, .int .u8 0, .int .u8 0, .int .u8 0, .int .u8 0, .int .u8 0, .int .u8 0, .int .u8 0, .int .u8 0, .int .u8 0, .int .u8 0, .int .u8 0, .int .u8 0, .int .u8 0, .int .u8 0, .int .u8 0, .int .u8 0, .int .u8 0, .int .u8 0, .int .u8 0, .int .u8 0, .int .u8 0, .int .u8 0, .int .u8 0, .int .u8 0, .int .u8 0, .int .u8 0, .int .u8 0, .bool false, .bool false, .bool false, .bool false, .int .u8 0] : Value)) := by kernel_rfl
theorem un80 : Tryz.prog.underlying 80 = some (.slice 9) := Tryz.underlying80
theorem on80 : isOne Tryz.prog 80 = true := by kernel_rfl
theorem sz80 : (Tryz.prog.info? 80).map (·.size) = some 1 := by kernel_rfl
theorem zr80 : (Tryz.prog.info? 80).map (·.zero) = some (some (.slice none 0 0 : Value)) := by kernel_rfl
theorem un85 : Tryz.prog.underlying 85 = some (.pointer 136) := Tryz.underlying85
theorem un90 : Tryz.prog.underlying 90 = some (.slice 94) := Tryz.underlying90
theorem un92 : Tryz.prog.underlying 92 = some (.slice 97) := Tryz.underlying92
theorem on92 : isOne Tryz.prog 92 = true := by kernel_rfl
theorem sz92 : (Tryz.prog.info? 92).map (·.size) = some 1 := by kernel_rfl
theorem ag94 : aggB Tryz.prog 94 3 = true := by kernel_rfl
theorem sz94 : (Tryz.prog.info? 94).map (·.size) = some 3 := by kernel_rfl
theorem fo94_0 : fieldOff Tryz.prog 94 0 = some 0 := by kernel_rfl
theorem fo94_1 : fieldOff Tryz.prog 94 1 = some 1 := by kernel_rfl
theorem fo94_2 : fieldOff Tryz.prog 94 2 = some 2 := by kernel_rfl
theorem zr94 : (Tryz.prog.info? 94).map (·.zero) = some (some (.agg #[.int .u8 0, .int .u8 0, .slice none 0 0] : Value)) := by kernel_rfl
theorem zs94 : (Tryz.prog.info? 94).map (fun i => (i.zero, i.size)) = some (some (.agg #[.int .u8 0, .int .u8 0, .slice none 0 0] : Value), 3) := by kernel_rfl
theorem ag97 : aggB Tryz.prog 97 33 = true := by kernel_rfl
theorem sz97 : (Tryz.prog.info? 97).map (·.size) = some 33 := by kernel_rfl
theorem fo97_0 : fieldOff Tryz.prog 97 0 = some 0 := by kernel_rfl
theorem fo97_1 : fieldOff Tryz.prog 97 1 = some 1 := by kernel_rfl
theorem zr97 : (Tryz.prog.info? 97).map (·.zero) = some (some (.agg #[.int .u8 0, .int .u8 0, .int .u8 0, .int .u8 0, .int .u8 0, .int .u8 0, .int .u8 0, .int .u8 0, .int .u8 0, .int .u8 0, .int .u8 0, .int .u8 0, .int .u8 0, .int .u8 0, .int .u8 0, .int .u8 0, .int .u8 0, .int .u8 0, .int .u8 0, .int .u8 0, .int .u8 0, .int .u8 0, .int .u8 0, .int .u8 0, .int .u8 0, .int .u8 0, .int .u8 0, .int .u8 0, .int .u8 0, .int .u8 0, .int .u8 0, .int .u8 0, .int .u8 0] : Value)) := by kernel_rfl
theorem zs97 : (Tryz.prog.info? 97).map (fun i => (i.zero, i.size)) = some (some (.agg #[.int .u8 0, .int .u8 0, .int .u8 0, .int .u8 0, .int .u8 0, .int .u8 0, .int .u8 0, .int .u8 0, .int .u8 0, .int .u8 0, .int .u8 0, .int .u8 0, .int .u8 0, .int .u8 0, .int .u8 0, .int .u8 0, .int .u8 0, .int .u8 0, .int .u8 0, .int .u8 0, .int .u8 0, .int .u8 0, .int .u8 0, .int .u8 0, .int .u8 0, .int .u8 0, .int .u8 0, .int .u8 0, .int .u8 0, .int .u8 0, .int .u8 0, .int .u8 0, .int .u8 0] : Value), 33) := by kernel_rfl
theorem un102 : Tryz.prog.underlying 102 = some (.pointer 141) := Tryz.underlying102
theorem un117 : Tryz.prog.underlying 117 = some (.array 64 5) := Tryz.underlying117
theorem ag117 : aggB Tryz.prog 117 64 = true := by kernel_rfl
theorem sz117 : (Tryz.prog.info? 117).map (·.size) = some 64 := by kernel_rfl
theorem zr117 : (Tryz.prog.info? 117).map (·.zero) = some (some (.agg #[.int .u8 0, .int .u8 0, .int .u8 0, .int .u8 0, .int .u8 0, .int .u8 0, .int .u8 0, .int .u8 0, .int .u8 0, .int .u8 0, .int .u8 0, .int .u8 0, .int .u8 0, .int .u8 0, .int .u8 0, .int .u8 0, .int .u8 0, .int .u8 0, .int .u8 0, .int .u8 0, .int .u8 0, .int .u8 0, .int .u8 0, .int .u8 0, .int .u8 0, .int .u8 0, .int .u8 0, .int .u8 0, .int .u8 0, .int .u8 0, .int .u8 0, .int .u8 0, .int .u8 0, .int .u8 0, .int .u8 0, .int .u8 0, .int .u8 0, .int .u8 0, .int .u8 0, .int .u8 0, .int .u8 0, .int .u8 0, .int .u8 0, .int .u8 0, .int .u8 0, .int .u8 0, .int .u8 0, .int .u8 0, .int .u8 0, .int .u8 0, .int .u8 0, .int .u8 0, .int .u8 0, .int .u8 0, .int .u8 0, .int .u8 0, .int .u8 0, .int .u8 0, .int .u8 0, .int .u8 0, .int .u8 0, .int .u8 0, .int .u8 0, .int .u8 0] : Value)) := by kernel_rfl
theorem un119 : Tryz.prog.underlying 119 = some (.pointer 121) := Tryz.underlying119
theorem on119 : isOne Tryz.prog 119 = true := by kernel_rfl
theorem sz119 : (Tryz.prog.info? 119).map (·.size) = some 1 := by kernel_rfl
theorem sz121 : (Tryz.prog.info? 121).map (·.size) = some 2 := by kernel_rfl
theorem fo121_0 : fieldOff Tryz.prog 121 0 = some 0 := by kernel_rfl
theorem fo121_1 : fieldOff Tryz.prog 121 1 = some 1 := by kernel_rfl
theorem zr121 : (Tryz.prog.info? 121).map (·.zero) = some (some (.agg #[.pointer none, .slice none 0 0] : Value)) := by kernel_rfl
theorem un122 : Tryz.prog.underlying 122 = some (.int .u64) := Tryz.underlying122
theorem on122 : isOne Tryz.prog 122 = true := by kernel_rfl
theorem sz122 : (Tryz.prog.info? 122).map (·.size) = some 1 := by kernel_rfl
theorem zs122 : (Tryz.prog.info? 122).map (fun i => (i.zero, i.size)) = some (some (.int .u64 0 : Value), 1) := by kernel_rfl
theorem un123 : Tryz.prog.underlying 123 = some (.int .u64) := Tryz.underlying123
theorem fo136_0 : fieldOff Tryz.prog 136 0 = some 0 := by kernel_rfl
theorem fo136_1 : fieldOff Tryz.prog 136 1 = some 1 := by kernel_rfl
theorem fo141_0 : fieldOff Tryz.prog 141 0 = some 0 := by kernel_rfl
theorem fo141_1 : fieldOff Tryz.prog 141 1 = some 1 := by kernel_rfl
theorem fo141_2 : fieldOff Tryz.prog 141 2 = some 2 := by kernel_rfl
theorem un150 : Tryz.prog.underlying 150 = some (.slice 54) := Tryz.underlying150
theorem un154 : Tryz.prog.underlying 154 = some (.pointer 5) := Tryz.underlying154
theorem un156 : Tryz.prog.underlying 156 = some (.slice 122) := Tryz.underlying156
theorem on156 : isOne Tryz.prog 156 = true := by kernel_rfl
theorem un162 : Tryz.prog.underlying 162 = some (.int .u16) := Tryz.underlying162
theorem un176 : Tryz.prog.underlying 176 = some (.array 3 3) := Tryz.underlying176
theorem ag176 : aggB Tryz.prog 176 3 = true := by kernel_rfl
theorem fo178_0 : fieldOff Tryz.prog 178 0 = some 0 := by kernel_rfl
theorem fo178_1 : fieldOff Tryz.prog 178 1 = some 3 := by kernel_rfl
theorem fo178_2 : fieldOff Tryz.prog 178 2 = some 6 := by kernel_rfl
theorem fo178_3 : fieldOff Tryz.prog 178 3 = some 9 := by kernel_rfl
theorem fo180_0 : fieldOff Tryz.prog 180 0 = some 0 := by kernel_rfl
theorem fo180_1 : fieldOff Tryz.prog 180 1 = some 1 := by kernel_rfl
theorem fo180_2 : fieldOff Tryz.prog 180 2 = some 2 := by kernel_rfl
theorem fo180_3 : fieldOff Tryz.prog 180 3 = some 3 := by kernel_rfl
theorem un196 : Tryz.prog.underlying 196 = some (.array 8 122) := Tryz.underlying196
theorem sz196 : (Tryz.prog.info? 196).map (·.size) = some 8 := by kernel_rfl
theorem zr196 : (Tryz.prog.info? 196).map (·.zero) = some (some (.agg #[.int .u64 0, .int .u64 0, .int .u64 0, .int .u64 0, .int .u64 0, .int .u64 0, .int .u64 0, .int .u64 0] : Value)) := by kernel_rfl
theorem zb22_32 : (Tryz.prog.info? 32).map (fun i => (i.zero, i.size, i.bytes)) = some (some (.agg #[.int .u8 0, .int .u8 0, .int .u8 0, .int .u8 0, .int .u8 0, .int .u8 0, .int .u8 0, .int .u8 0, .int .u8 0, .int .u8 0, .int .u8 0, .int .u8 0, .int .u8 0, .int .u8 0, .int .u8 0, .int .u8 0, .int .u8 0, .int .u8 0, .int .u8 0, .int .u8 0, .int .u8 0, .int .u8 0, .int .u8 0, .int .u8 0, .int .u8 0, .int .u8 0, .int .u8 0, .int .u8 0, .int .u8 0, .int .u8 0, .int .u8 0, .int .u8 0] : Value), 32, 32) := by kernel_rfl
theorem sl22 : SlT Tryz.prog 22 32 (.agg #[.int .u8 0, .int .u8 0, .int .u8 0, .int .u8 0, .int .u8 0, .int .u8 0, .int .u8 0, .int .u8 0, .int .u8 0, .int .u8 0, .int .u8 0, .int .u8 0, .int .u8 0, .int .u8 0, .int .u8 0, .int .u8 0, .int .u8 0, .int .u8 0, .int .u8 0, .int .u8 0, .int .u8 0, .int .u8 0, .int .u8 0, .int .u8 0, .int .u8 0, .int .u8 0, .int .u8 0, .int .u8 0, .int .u8 0, .int .u8 0, .int .u8 0, .int .u8 0] : Value) 32 32 := SlT.mk' un22 zb22_32 rfl (by decide)
theorem zb54_5 : (Tryz.prog.info? 5).map (fun i => (i.zero, i.size, i.bytes)) = some (some (.int .u8 0 : Value), 1, 1) := by kernel_rfl
theorem sl54 : SlT Tryz.prog 54 5 (.int .u8 0 : Value) 1 1 := SlT.mk' un54 zb54_5 rfl (by decide)
theorem zb80_9 : (Tryz.prog.info? 9).map (fun i => (i.zero, i.size, i.bytes)) = some (some (.string ByteArray.empty : Value), 1, 16) := by kernel_rfl
theorem sl80 : SlT Tryz.prog 80 9 (.string ByteArray.empty : Value) 1 16 := SlT.mk' un80 zb80_9 rfl (by decide)
theorem zb90_94 : (Tryz.prog.info? 94).map (fun i => (i.zero, i.size, i.bytes)) = some (some (.agg #[.int .u8 0, .int .u8 0, .slice none 0 0] : Value), 3, 32) := by kernel_rfl
theorem sl90 : SlT Tryz.prog 90 94 (.agg #[.int .u8 0, .int .u8 0, .slice none 0 0] : Value) 3 32 := SlT.mk' un90 zb90_94 rfl (by decide)
theorem zb92_97 : (Tryz.prog.info? 97).map (fun i => (i.zero, i.size, i.bytes)) = some (some (.agg #[.int .u8 0, .int .u8 0, .int .u8 0, .int .u8 0, .int .u8 0, .int .u8 0, .int .u8 0, .int .u8 0, .int .u8 0, .int .u8 0, .int .u8 0, .int .u8 0, .int .u8 0, .int .u8 0, .int .u8 0, .int .u8 0, .int .u8 0, .int .u8 0, .int .u8 0, .int .u8 0, .int .u8 0, .int .u8 0, .int .u8 0, .int .u8 0, .int .u8 0, .int .u8 0, .int .u8 0, .int .u8 0, .int .u8 0, .int .u8 0, .int .u8 0, .int .u8 0, .int .u8 0] : Value), 33, 33) := by kernel_rfl
theorem sl92 : SlT Tryz.prog 92 97 (.agg #[.int .u8 0, .int .u8 0, .int .u8 0, .int .u8 0, .int .u8 0, .int .u8 0, .int .u8 0, .int .u8 0, .int .u8 0, .int .u8 0, .int .u8 0, .int .u8 0, .int .u8 0, .int .u8 0, .int .u8 0, .int .u8 0, .int .u8 0, .int .u8 0, .int .u8 0, .int .u8 0, .int .u8 0, .int .u8 0, .int .u8 0, .int .u8 0, .int .u8 0, .int .u8 0, .int .u8 0, .int .u8 0, .int .u8 0, .int .u8 0, .int .u8 0, .int .u8 0, .int .u8 0] : Value) 33 33 := SlT.mk' un92 zb92_97 rfl (by decide)
theorem zb156_122 : (Tryz.prog.info? 122).map (fun i => (i.zero, i.size, i.bytes)) = some (some (.int .u64 0 : Value), 1, 8) := by kernel_rfl
theorem sl156 : SlT Tryz.prog 156 122 (.int .u64 0 : Value) 1 8 := SlT.mk' un156 zb156_122 rfl (by decide)
theorem en4 : ∀ args w, (callFunc 4 args).run Tryz.prog w = .ok (.enter 4 args) w := enters Tryz.func4 (by kernel_rfl) rfl
theorem en5 : ∀ args w, (callFunc 5 args).run Tryz.prog w = .ok (.enter 5 args) w := enters Tryz.func5 (by kernel_rfl) rfl
theorem en6 : ∀ args w, (callFunc 6 args).run Tryz.prog w = .ok (.enter 6 args) w := enters Tryz.func6 (by kernel_rfl) rfl
theorem en7 : ∀ args w, (callFunc 7 args).run Tryz.prog w = .ok (.enter 7 args) w := enters Tryz.func7 (by kernel_rfl) rfl
theorem en8 : ∀ args w, (callFunc 8 args).run Tryz.prog w = .ok (.enter 8 args) w := enters Tryz.func8 (by kernel_rfl) rfl
theorem en9 : ∀ args w, (callFunc 9 args).run Tryz.prog w = .ok (.enter 9 args) w := enters Tryz.func9 (by kernel_rfl) rfl
theorem en10 : ∀ args w, (callFunc 10 args).run Tryz.prog w = .ok (.enter 10 args) w := enters Tryz.func10 (by kernel_rfl) rfl
theorem en11 : ∀ args w, (callFunc 11 args).run Tryz.prog w = .ok (.enter 11 args) w := enters Tryz.func11 (by kernel_rfl) rfl
theorem en12 : ∀ args w, (callFunc 12 args).run Tryz.prog w = .ok (.enter 12 args) w := enters Tryz.func12 (by kernel_rfl) rfl
theorem en13 : ∀ args w, (callFunc 13 args).run Tryz.prog w = .ok (.enter 13 args) w := enters Tryz.func13 (by kernel_rfl) rfl
theorem en14 : ∀ args w, (callFunc 14 args).run Tryz.prog w = .ok (.enter 14 args) w := enters Tryz.func14 (by kernel_rfl) rfl
theorem en15 : ∀ args w, (callFunc 15 args).run Tryz.prog w = .ok (.enter 15 args) w := enters Tryz.func15 (by kernel_rfl) rfl
theorem en16 : ∀ args w, (callFunc 16 args).run Tryz.prog w = .ok (.enter 16 args) w := enters Tryz.func16 (by kernel_rfl) rfl
theorem en17 : ∀ args w, (callFunc 17 args).run Tryz.prog w = .ok (.enter 17 args) w := enters Tryz.func17 (by kernel_rfl) rfl
theorem en18 : ∀ args w, (callFunc 18 args).run Tryz.prog w = .ok (.enter 18 args) w := enters Tryz.func18 (by kernel_rfl) rfl
theorem en19 : ∀ args w, (callFunc 19 args).run Tryz.prog w = .ok (.enter 19 args) w := enters Tryz.func19 (by kernel_rfl) rfl
theorem en20 : ∀ args w, (callFunc 20 args).run Tryz.prog w = .ok (.enter 20 args) w := enters Tryz.func20 (by kernel_rfl) rfl
theorem en21 : ∀ args w, (callFunc 21 args).run Tryz.prog w = .ok (.enter 21 args) w := enters Tryz.func21 (by kernel_rfl) rfl
theorem en22 : ∀ args w, (callFunc 22 args).run Tryz.prog w = .ok (.enter 22 args) w := enters Tryz.func22 (by kernel_rfl) rfl
theorem en23 : ∀ args w, (callFunc 23 args).run Tryz.prog w = .ok (.enter 23 args) w := enters Tryz.func23 (by kernel_rfl) rfl
theorem en24 : ∀ args w, (callFunc 24 args).run Tryz.prog w = .ok (.enter 24 args) w := enters Tryz.func24 (by kernel_rfl) rfl
theorem en25 : ∀ args w, (callFunc 25 args).run Tryz.prog w = .ok (.enter 25 args) w := enters Tryz.func25 (by kernel_rfl) rfl
theorem en26 : ∀ args w, (callFunc 26 args).run Tryz.prog w = .ok (.enter 26 args) w := enters Tryz.func26 (by kernel_rfl) rfl
theorem en27 : ∀ args w, (callFunc 27 args).run Tryz.prog w = .ok (.enter 27 args) w := enters Tryz.func27 (by kernel_rfl) rfl
theorem en28 : ∀ args w, (callFunc 28 args).run Tryz.prog w = .ok (.enter 28 args) w := enters Tryz.func28 (by kernel_rfl) rfl
theorem en29 : ∀ args w, (callFunc 29 args).run Tryz.prog w = .ok (.enter 29 args) w := enters Tryz.func29 (by kernel_rfl) rfl
theorem en30 : ∀ args w, (callFunc 30 args).run Tryz.prog w = .ok (.enter 30 args) w := enters Tryz.func30 (by kernel_rfl) rfl
theorem en31 : ∀ args w, (callFunc 31 args).run Tryz.prog w = .ok (.enter 31 args) w := enters Tryz.func31 (by kernel_rfl) rfl
theorem en32 : ∀ args w, (callFunc 32 args).run Tryz.prog w = .ok (.enter 32 args) w := enters Tryz.func32 (by kernel_rfl) rfl
theorem en33 : ∀ args w, (callFunc 33 args).run Tryz.prog w = .ok (.enter 33 args) w := enters Tryz.func33 (by kernel_rfl) rfl
theorem en34 : ∀ args w, (callFunc 34 args).run Tryz.prog w = .ok (.enter 34 args) w := enters Tryz.func34 (by kernel_rfl) rfl
theorem en35 : ∀ args w, (callFunc 35 args).run Tryz.prog w = .ok (.enter 35 args) w := enters Tryz.func35 (by kernel_rfl) rfl
theorem en36 : ∀ args w, (callFunc 36 args).run Tryz.prog w = .ok (.enter 36 args) w := enters Tryz.func36 (by kernel_rfl) rfl
theorem en37 : ∀ args w, (callFunc 37 args).run Tryz.prog w = .ok (.enter 37 args) w := enters Tryz.func37 (by kernel_rfl) rfl
theorem en38 : ∀ args w, (callFunc 38 args).run Tryz.prog w = .ok (.enter 38 args) w := enters Tryz.func38 (by kernel_rfl) rfl
theorem en39 : ∀ args w, (callFunc 39 args).run Tryz.prog w = .ok (.enter 39 args) w := enters Tryz.func39 (by kernel_rfl) rfl
theorem en40 : ∀ args w, (callFunc 40 args).run Tryz.prog w = .ok (.enter 40 args) w := enters Tryz.func40 (by kernel_rfl) rfl
theorem en41 : ∀ args w, (callFunc 41 args).run Tryz.prog w = .ok (.enter 41 args) w := enters Tryz.func41 (by kernel_rfl) rfl
theorem en42 : ∀ args w, (callFunc 42 args).run Tryz.prog w = .ok (.enter 42 args) w := enters Tryz.func42 (by kernel_rfl) rfl
theorem en43 : ∀ args w, (callFunc 43 args).run Tryz.prog w = .ok (.enter 43 args) w := enters Tryz.func43 (by kernel_rfl) rfl
theorem en44 : ∀ args w, (callFunc 44 args).run Tryz.prog w = .ok (.enter 44 args) w := enters Tryz.func44 (by kernel_rfl) rfl
theorem en45 : ∀ args w, (callFunc 45 args).run Tryz.prog w = .ok (.enter 45 args) w := enters Tryz.func45 (by kernel_rfl) rfl
theorem en46 : ∀ args w, (callFunc 46 args).run Tryz.prog w = .ok (.enter 46 args) w := enters Tryz.func46 (by kernel_rfl) rfl
theorem en47 : ∀ args w, (callFunc 47 args).run Tryz.prog w = .ok (.enter 47 args) w := enters Tryz.func47 (by kernel_rfl) rfl
theorem en48 : ∀ args w, (callFunc 48 args).run Tryz.prog w = .ok (.enter 48 args) w := enters Tryz.func48 (by kernel_rfl) rfl
theorem en49 : ∀ args w, (callFunc 49 args).run Tryz.prog w = .ok (.enter 49 args) w := enters Tryz.func49 (by kernel_rfl) rfl
theorem en50 : ∀ args w, (callFunc 50 args).run Tryz.prog w = .ok (.enter 50 args) w := enters Tryz.func50 (by kernel_rfl) rfl
theorem en51 : ∀ args w, (callFunc 51 args).run Tryz.prog w = .ok (.enter 51 args) w := enters Tryz.func51 (by kernel_rfl) rfl
theorem en52 : ∀ args w, (callFunc 52 args).run Tryz.prog w = .ok (.enter 52 args) w := enters Tryz.func52 (by kernel_rfl) rfl
theorem en53 : ∀ args w, (callFunc 53 args).run Tryz.prog w = .ok (.enter 53 args) w := enters Tryz.func53 (by kernel_rfl) rfl
theorem en54 : ∀ args w, (callFunc 54 args).run Tryz.prog w = .ok (.enter 54 args) w := enters Tryz.func54 (by kernel_rfl) rfl
theorem en55 : ∀ args w, (callFunc 55 args).run Tryz.prog w = .ok (.enter 55 args) w := enters Tryz.func55 (by kernel_rfl) rfl
theorem en56 : ∀ args w, (callFunc 56 args).run Tryz.prog w = .ok (.enter 56 args) w := enters Tryz.func56 (by kernel_rfl) rfl
theorem en57 : ∀ args w, (callFunc 57 args).run Tryz.prog w = .ok (.enter 57 args) w := enters Tryz.func57 (by kernel_rfl) rfl
theorem en58 : ∀ args w, (callFunc 58 args).run Tryz.prog w = .ok (.enter 58 args) w := enters Tryz.func58 (by kernel_rfl) rfl
theorem en59 : ∀ args w, (callFunc 59 args).run Tryz.prog w = .ok (.enter 59 args) w := enters Tryz.func59 (by kernel_rfl) rfl
theorem en60 : ∀ args w, (callFunc 60 args).run Tryz.prog w = .ok (.enter 60 args) w := enters Tryz.func60 (by kernel_rfl) rfl
theorem en61 : ∀ args w, (callFunc 61 args).run Tryz.prog w = .ok (.enter 61 args) w := enters Tryz.func61 (by kernel_rfl) rfl
theorem en62 : ∀ args w, (callFunc 62 args).run Tryz.prog w = .ok (.enter 62 args) w := enters Tryz.func62 (by kernel_rfl) rfl
theorem en64 : ∀ args w, (callFunc 64 args).run Tryz.prog w = .ok (.enter 64 args) w := enters Tryz.func64 (by kernel_rfl) rfl
theorem en65 : ∀ args w, (callFunc 65 args).run Tryz.prog w = .ok (.enter 65 args) w := enters Tryz.func65 (by kernel_rfl) rfl
theorem en66 : ∀ args w, (callFunc 66 args).run Tryz.prog w = .ok (.enter 66 args) w := enters Tryz.func66 (by kernel_rfl) rfl
theorem en67 : ∀ args w, (callFunc 67 args).run Tryz.prog w = .ok (.enter 67 args) w := enters Tryz.func67 (by kernel_rfl) rfl
theorem en68 : ∀ args w, (callFunc 68 args).run Tryz.prog w = .ok (.enter 68 args) w := enters Tryz.func68 (by kernel_rfl) rfl
theorem en69 : ∀ args w, (callFunc 69 args).run Tryz.prog w = .ok (.enter 69 args) w := enters Tryz.func69 (by kernel_rfl) rfl
theorem en70 : ∀ args w, (callFunc 70 args).run Tryz.prog w = .ok (.enter 70 args) w := enters Tryz.func70 (by kernel_rfl) rfl
theorem en71 : ∀ args w, (callFunc 71 args).run Tryz.prog w = .ok (.enter 71 args) w := enters Tryz.func71 (by kernel_rfl) rfl
theorem en74 : ∀ args w, (callFunc 74 args).run Tryz.prog w = .ok (.enter 74 args) w := enters Tryz.func74 (by kernel_rfl) rfl
theorem en75 : ∀ args w, (callFunc 75 args).run Tryz.prog w = .ok (.enter 75 args) w := enters Tryz.func75 (by kernel_rfl) rfl
theorem en76 : ∀ args w, (callFunc 76 args).run Tryz.prog w = .ok (.enter 76 args) w := enters Tryz.func76 (by kernel_rfl) rfl
theorem en77 : ∀ args w, (callFunc 77 args).run Tryz.prog w = .ok (.enter 77 args) w := enters Tryz.func77 (by kernel_rfl) rfl
theorem en78 : ∀ args w, (callFunc 78 args).run Tryz.prog w = .ok (.enter 78 args) w := enters Tryz.func78 (by kernel_rfl) rfl
theorem en79 : ∀ args w, (callFunc 79 args).run Tryz.prog w = .ok (.enter 79 args) w := enters Tryz.func79 (by kernel_rfl) rfl
theorem en80 : ∀ args w, (callFunc 80 args).run Tryz.prog w = .ok (.enter 80 args) w := enters Tryz.func80 (by kernel_rfl) rfl
theorem en81 : ∀ args w, (callFunc 81 args).run Tryz.prog w = .ok (.enter 81 args) w := enters Tryz.func81 (by kernel_rfl) rfl
theorem en82 : ∀ args w, (callFunc 82 args).run Tryz.prog w = .ok (.enter 82 args) w := enters Tryz.func82 (by kernel_rfl) rfl
theorem en83 : ∀ args w, (callFunc 83 args).run Tryz.prog w = .ok (.enter 83 args) w := enters Tryz.func83 (by kernel_rfl) rfl
theorem en87 : ∀ args w, (callFunc 87 args).run Tryz.prog w = .ok (.enter 87 args) w := enters Tryz.func87 (by kernel_rfl) rfl
theorem en88 : ∀ args w, (callFunc 88 args).run Tryz.prog w = .ok (.enter 88 args) w := enters Tryz.func88 (by kernel_rfl) rfl
theorem en89 : ∀ args w, (callFunc 89 args).run Tryz.prog w = .ok (.enter 89 args) w := enters Tryz.func89 (by kernel_rfl) rfl
theorem en90 : ∀ args w, (callFunc 90 args).run Tryz.prog w = .ok (.enter 90 args) w := enters Tryz.func90 (by kernel_rfl) rfl
theorem en91 : ∀ args w, (callFunc 91 args).run Tryz.prog w = .ok (.enter 91 args) w := enters Tryz.func91 (by kernel_rfl) rfl
theorem en92 : ∀ args w, (callFunc 92 args).run Tryz.prog w = .ok (.enter 92 args) w := enters Tryz.func92 (by kernel_rfl) rfl
theorem en93 : ∀ args w, (callFunc 93 args).run Tryz.prog w = .ok (.enter 93 args) w := enters Tryz.func93 (by kernel_rfl) rfl
theorem en94 : ∀ args w, (callFunc 94 args).run Tryz.prog w = .ok (.enter 94 args) w := enters Tryz.func94 (by kernel_rfl) rfl
theorem en95 : ∀ args w, (callFunc 95 args).run Tryz.prog w = .ok (.enter 95 args) w := enters Tryz.func95 (by kernel_rfl) rfl
theorem en96 : ∀ args w, (callFunc 96 args).run Tryz.prog w = .ok (.enter 96 args) w := enters Tryz.func96 (by kernel_rfl) rfl
theorem en97 : ∀ args w, (callFunc 97 args).run Tryz.prog w = .ok (.enter 97 args) w := enters Tryz.func97 (by kernel_rfl) rfl
theorem en99 : ∀ args w, (callFunc 99 args).run Tryz.prog w = .ok (.enter 99 args) w := enters Tryz.func99 (by kernel_rfl) rfl
theorem en100 : ∀ args w, (callFunc 100 args).run Tryz.prog w = .ok (.enter 100 args) w := enters Tryz.func100 (by kernel_rfl) rfl
theorem en101 : ∀ args w, (callFunc 101 args).run Tryz.prog w = .ok (.enter 101 args) w := enters Tryz.func101 (by kernel_rfl) rfl
theorem en116 : ∀ args w, (callFunc 116 args).run Tryz.prog w = .ok (.enter 116 args) w := enters Tryz.func116 (by kernel_rfl) rfl
theorem en117 : ∀ args w, (callFunc 117 args).run Tryz.prog w = .ok (.enter 117 args) w := enters Tryz.func117 (by kernel_rfl) rfl
theorem en118 : ∀ args w, (callFunc 118 args).run Tryz.prog w = .ok (.enter 118 args) w := enters Tryz.func118 (by kernel_rfl) rfl
theorem en120 : ∀ args w, (callFunc 120 args).run Tryz.prog w = .ok (.enter 120 args) w := enters Tryz.func120 (by kernel_rfl) rfl
theorem en131 : ∀ args w, (callFunc 131 args).run Tryz.prog w = .ok (.enter 131 args) w := enters Tryz.func131 (by kernel_rfl) rfl
theorem en132 : ∀ args w, (callFunc 132 args).run Tryz.prog w = .ok (.enter 132 args) w := enters Tryz.func132 (by kernel_rfl) rfl
theorem en133 : ∀ args w, (callFunc 133 args).run Tryz.prog w = .ok (.enter 133 args) w := enters Tryz.func133 (by kernel_rfl) rfl
theorem en137 : ∀ args w, (callFunc 137 args).run Tryz.prog w = .ok (.enter 137 args) w := enters Tryz.func137 (by kernel_rfl) rfl
end Go.Proofs.YtcplbkbimpiioaaGreatDoor
